/- The ends of functions, by the shape of their results. -/
import Derived.Test.YtmiamhegohlglaaC16
set_option linter.unusedSimpArgs false
set_option linter.unusedVariables false
namespace Go.Proofs.Ytmiamhegohlglaa

section
variable {P : Program} {N : Nat} {B : Base} {E : List (Nat × Ent)} {L : List (Nat × LO)} {n : Nat} {D : List Nat}

theorem boxLoad1 {T TB : Nat} {o off : Nat} {cs : List LV} {c : LV} (hF : OneF P T) {cx : Cx} {a : Act} {w : World} (hr : Rel B N D (st E L n) cx a w) {t : Nat}
    (ht : en E t = some (true, .ptr o off)) (hb : hp L o = some (.box TB cs)) (hc : cs[off]? = some c) :
    ∃ v ad, a.tmps.getD t undef = .pointer (some ad) ∧ (loadVar T ad).run P w = .ok v w ∧ V cx w c v := by
  have hv := (hr.env t _ ht).1 rfl
  simp only [V] at hv
  obtain ⟨hA, b, hbk, he⟩ := hv
  obtain ⟨b', vs, k1, k2, k3⟩ := (hr.heap.ok o _ hb).2
  rw [k1] at hbk
  simp only [bk, Option.some.injEq] at hbk
  subst hbk
  obtain ⟨v, hv1, hv2⟩ := k3.get hc
  refine ⟨v, _, he, ?_, hv2⟩
  have hcell : w.cell? ⟨b', off, none⟩ = some v := by simp [World.cell?, k2, hv1]
  simp [loadVar, hF.1 w, hcell]

/-- what a function's results are, in a state -/
def ResIs (P : Program) (B : Base) (N : Nat) (D : List Nat) (E : List (Nat × Ent)) (L : List (Nat × LO)) (n : Nat) (fn : Func) (l : LV) : Prop :=
  ∀ cx a w, Rel B N D (st E L n) cx a w → ∃ v, (results fn a.tmps).run P w = .ok v w ∧ V cx w l v

theorem FnPost.fin {fn : Func} {l : LV} (hres : ResIs P B N [] E L n fn l) {m k : Nat} {Hi Ho : List (Nat × LO)} (hA : ∀ o, B.cx.A o ↔ o < m) (hmd : B.md = blks B.cx (hp Hi)) (hn : m + k ≤ n) (hK : KeepL (hp L) Ho)
    (hol : (Ho.all fun p => decide (p.1 < m + k) && p.2.lt (m + k)) = true) (hout : l.lt (m + k) = true) {e : Exit} (he : e = .normal ∨ e = .ret) : ∀ cx a w, Rel B N [] (st E L n) cx a w → FnPost P fn B m l Hi Ho k e a w := by
  intro cx a w hr
  obtain ⟨v, h1, h2⟩ := hres cx a w hr
  exact FnPost.of2 hA hmd hn (fun o x hx => hK.get hx) hol hout he hr h1 h2

/-- the end of a function; ids: what its names are here -/
theorem FnPost.finI (ids : List Nat) {fn : Func} {l out : LV} (hres : ResIs P B N [] E L n fn l) {m k : Nat} {Hi Ho : List (Nat × LO)} (hA : ∀ o, B.cx.A o ↔ o < m) (hmd : B.md = blks B.cx (hp Hi))
    (hK : KeepL (hp L) (renL (fun j => ids.getD j 0) Ho) := by repeat (first | exact trivial | refine ⟨rfl, ?_⟩)) (hl : l = out.mapI (fun j => ids.getD j 0) := by rfl) (hb : ids.take m = List.range m := by rfl) (hlen : ids.length = m + k := by rfl) (hnd : ids.Nodup := by decide)
    (hol : (Ho.all fun p => decide (p.1 < m + k) && p.2.lt (m + k)) = true := by first | rfl | simp [LO.lt, LV.lts, LV.lt, lts_sv]) (hout : out.lt (m + k) = true := by first | rfl | simp [LV.lts, LV.lt, lts_sv]) {e : Exit} (he : e = .normal ∨ e = .ret := by first | exact .inr rfl | exact .inl rfl) :
    ∀ cx a w, Rel B N [] (st E L n) cx a w → FnPost P fn B m out Hi Ho k e a w := by
  intro cx a w hr
  obtain ⟨v, hv, hvo⟩ := hres cx a w hr
  refine ⟨he, ?_⟩
  rw [show a.defers = [] from hr.df]
  let s : Nat → Nat := fun j => ids.getD j 0
  let c1 : Cx := ⟨cx.pr, fun o => o < m + k, fun o => cx.loc (s o), fun o => cx.inn (s o)⟩
  have h1 : ∀ o, o < m + k → c1.A o ∧ c1.loc o = cx.loc (s o) := fun o ho => ⟨ho, rfl⟩
  have hs0 : ∀ o, o < m → s o = o := by
    intro o ho
    have h2 : (ids.take m)[o]? = some o := by rw [hb]; simp [ho]
    rw [List.getElem?_take, if_pos ho] at h2
    simp [s, List.getD_eq_getElem?_getD, h2]
  have hinj : ∀ i j, i < m + k → j < m + k → s i = s j → i = j := by
    intro i j hi hj hij
    rw [← hlen] at hi hj
    simp only [s, List.getD_eq_getElem?_getD, List.getElem?_eq_getElem hi, List.getElem?_eq_getElem hj, Option.getD_some] at hij
    rcases Nat.lt_trichotomy i j with hlt' | heq | hlt'
    · exact absurd hij (List.pairwise_iff_getElem.1 hnd i j hi hj hlt')
    · exact heq
    · exact absurd hij.symm (List.pairwise_iff_getElem.1 hnd j i hj hi hlt')
  have hlt : ∀ o x, hp Ho o = some x → o < m + k ∧ x.lt (m + k) = true := fun o x hx => by
    have := List.all_eq_true.1 hol _ (lookup_mem' hx)
    simpa using this
  have getL : ∀ {l : List (Nat × LO)} {t : Nat} {e : LO}, hp l t = some e → KeepL (hp L) (renL s l) → hp L (s t) = some (e.mapI s) := by
    intro l
    induction l with
    | nil => intro t e h; simp at h
    | cons p l ih =>
      obtain ⟨pk, pv⟩ := p
      intro t e ht hk
      simp only [renL, List.map_cons, KeepL] at hk
      simp only [hp, List.lookup_cons] at ht
      split at ht
      · rename_i hh; simp at hh; cases ht; subst hh; exact hk.1
      · exact ih ht hk.2
  refine ⟨v, hv, v, c1, rfl, fun hne => ⟨fun o ho => ⟨?_, ?_⟩, fun o => ?_, by rw [← hmd]; exact hr.grow, ⟨fun o x hx => ⟨(hlt o x hx).1, ?_⟩, fun o x b hx hb' => by rw [← hmd]; exact hr.heap.own _ _ b (getL hx hK) (has_map (cx1 := c1) rfl rfl hb'),
    fun o o' x x' b hne' hx hx' hb' hb'' => hr.heap.inj _ _ _ _ b (fun e => hne' (hinj _ _ (hlt o x hx).1 (hlt o' x' hx').1 e)) (getL hx hK) (getL hx' hK) (has_map (cx1 := c1) rfl rfl hb') (has_map (cx1 := c1) rfl rfl hb''), hr.heap.lim⟩, fun o ho hn => absurd hn (hne o ho)⟩, ?_⟩
  · have := (hA o).1 ho
    show o < m + k
    omega
  · show cx.loc (s o) = _
    rw [hs0 o ((hA o).1 ho)]; exact (hr.le o ho).2
  · rw [hA]
    show o < m + k ↔ _
    omega
  · exact ObjOk.unren (cx1 := c1) (cx2 := cx) (σ := s) rfl h1 (hlt o x hx).1 (hlt o x hx).2 rfl (hr.heap.ok _ _ (getL hx hK)).2
  · exact V.unren (cx1 := c1) (cx2 := cx) (σ := s) rfl h1 out v hout (by rw [← hl]; exact hvo)

theorem res_T {fn : Func} {t0 : Nat} {l0 : LV} (h : fn.results = #[.tmp t0]) 
    (h0 : en E t0 = some (true, l0) := by rfl) :
    ResIs P B N D E L n fn (l0) := by
  intro cx a w hr
  refine ⟨a.tmps.getD t0 undef, ?_, ?_⟩
  · simp [results, h]
  · exact (hr.env t0 _ h0).1 rfl
theorem ret_T {fn : Func} {t0 : Nat} {l0 : LV} (h : fn.results = #[.tmp t0])  {m k : Nat} {Hi Ho : List (Nat × LO)} (hA : ∀ o, B.cx.A o ↔ o < m) (hmd : B.md = blks B.cx (hp Hi))
    (h0 : en E t0 = some (true, l0) := by rfl) (hn : m + k ≤ n := by first | omega | decide)
    (hK : KeepL (hp L) Ho := by repeat (first | exact trivial | refine ⟨rfl, ?_⟩))
    (hol : (Ho.all fun p => decide (p.1 < m + k) && p.2.lt (m + k)) = true := by first | rfl | simp [LO.lt, LV.lts, LV.lt, lts_sv]) (hout : LV.lt (m + k) (l0) = true := by first | rfl | simp [LV.lts, LV.lt, lts_sv]) {e : Exit} (he : e = .normal ∨ e = .ret := by first | exact .inr rfl | exact .inl rfl) :
    ∀ cx a w, Rel B N [] (st E L n) cx a w → FnPost P fn B m (l0) Hi Ho k e a w :=
  FnPost.fin (res_T h h0) hA hmd hn hK hol hout he
theorem res_A {fn : Func} {t0 T0 o0 TB0 sz0 : Nat} {cs0 : List LV} (h : fn.results = #[.cell t0 T0]) (f0 : AggF P T0 sz0)
    (h0 : en E t0 = some (true, .ptr o0 0) := by rfl) (b0 : hp L o0 = some (.box TB0 cs0) := by rfl) (c0 : cs0.length = sz0 := by rfl) :
    ResIs P B N D E L n fn (.agg cs0) := by
  intro cx a w hr
  obtain ⟨v0, ad0, p0, q0, r0⟩ := boxLoadA f0 hr h0 b0 c0
  refine ⟨v0, ?_, ?_⟩
  · simp only [Array.getD_eq_getD_getElem?] at p0
    simp [results, h, p0, asAddr, q0]
  · exact r0
theorem ret_A {fn : Func} {t0 T0 o0 TB0 sz0 : Nat} {cs0 : List LV} (h : fn.results = #[.cell t0 T0]) (f0 : AggF P T0 sz0) {m k : Nat} {Hi Ho : List (Nat × LO)} (hA : ∀ o, B.cx.A o ↔ o < m) (hmd : B.md = blks B.cx (hp Hi))
    (h0 : en E t0 = some (true, .ptr o0 0) := by rfl) (b0 : hp L o0 = some (.box TB0 cs0) := by rfl) (c0 : cs0.length = sz0 := by rfl) (hn : m + k ≤ n := by first | omega | decide)
    (hK : KeepL (hp L) Ho := by repeat (first | exact trivial | refine ⟨rfl, ?_⟩))
    (hol : (Ho.all fun p => decide (p.1 < m + k) && p.2.lt (m + k)) = true := by first | rfl | simp [LO.lt, LV.lts, LV.lt, lts_sv]) (hout : LV.lt (m + k) (.agg cs0) = true := by first | rfl | simp [LV.lts, LV.lt, lts_sv]) {e : Exit} (he : e = .normal ∨ e = .ret := by first | exact .inr rfl | exact .inl rfl) :
    ∀ cx a w, Rel B N [] (st E L n) cx a w → FnPost P fn B m (.agg cs0) Hi Ho k e a w :=
  FnPost.fin (res_A h f0 h0 b0 c0) hA hmd hn hK hol hout he
theorem res_B {fn : Func} {t0 T0 o0 TB0 off0 : Nat} {cs0 : List LV} {l0 : LV} (h : fn.results = #[.cell t0 T0]) (f0 : OneF P T0)
    (h0 : en E t0 = some (true, .ptr o0 off0) := by rfl) (b0 : hp L o0 = some (.box TB0 cs0) := by rfl) (c0 : cs0[off0]? = some l0 := by rfl) :
    ResIs P B N D E L n fn (l0) := by
  intro cx a w hr
  obtain ⟨v0, ad0, p0, q0, r0⟩ := boxLoad1 f0 hr h0 b0 c0
  refine ⟨v0, ?_, ?_⟩
  · simp only [Array.getD_eq_getD_getElem?] at p0
    simp [results, h, p0, asAddr, q0]
  · exact r0
theorem ret_B {fn : Func} {t0 T0 o0 TB0 off0 : Nat} {cs0 : List LV} {l0 : LV} (h : fn.results = #[.cell t0 T0]) (f0 : OneF P T0) {m k : Nat} {Hi Ho : List (Nat × LO)} (hA : ∀ o, B.cx.A o ↔ o < m) (hmd : B.md = blks B.cx (hp Hi))
    (h0 : en E t0 = some (true, .ptr o0 off0) := by rfl) (b0 : hp L o0 = some (.box TB0 cs0) := by rfl) (c0 : cs0[off0]? = some l0 := by rfl) (hn : m + k ≤ n := by first | omega | decide)
    (hK : KeepL (hp L) Ho := by repeat (first | exact trivial | refine ⟨rfl, ?_⟩))
    (hol : (Ho.all fun p => decide (p.1 < m + k) && p.2.lt (m + k)) = true := by first | rfl | simp [LO.lt, LV.lts, LV.lt, lts_sv]) (hout : LV.lt (m + k) (l0) = true := by first | rfl | simp [LV.lts, LV.lt, lts_sv]) {e : Exit} (he : e = .normal ∨ e = .ret := by first | exact .inr rfl | exact .inl rfl) :
    ∀ cx a w, Rel B N [] (st E L n) cx a w → FnPost P fn B m (l0) Hi Ho k e a w :=
  FnPost.fin (res_B h f0 h0 b0 c0) hA hmd hn hK hol hout he
theorem res_TT {fn : Func} {t0 : Nat} {l0 : LV} {t1 : Nat} {l1 : LV} (h : fn.results = #[.tmp t0, .tmp t1]) 
    (h0 : en E t0 = some (true, l0) := by rfl) (h1 : en E t1 = some (true, l1) := by rfl) :
    ResIs P B N D E L n fn (.tup [l0, l1]) := by
  intro cx a w hr
  refine ⟨.tuple #[a.tmps.getD t0 undef, a.tmps.getD t1 undef], ?_, ?_⟩
  · simp [results, h]
  · simp only [V, Vs]
    exact ⟨[_, _], rfl, _, _, rfl, (hr.env t0 _ h0).1 rfl, _, _, rfl, (hr.env t1 _ h1).1 rfl, rfl⟩
theorem ret_TT {fn : Func} {t0 : Nat} {l0 : LV} {t1 : Nat} {l1 : LV} (h : fn.results = #[.tmp t0, .tmp t1])  {m k : Nat} {Hi Ho : List (Nat × LO)} (hA : ∀ o, B.cx.A o ↔ o < m) (hmd : B.md = blks B.cx (hp Hi))
    (h0 : en E t0 = some (true, l0) := by rfl) (h1 : en E t1 = some (true, l1) := by rfl) (hn : m + k ≤ n := by first | omega | decide)
    (hK : KeepL (hp L) Ho := by repeat (first | exact trivial | refine ⟨rfl, ?_⟩))
    (hol : (Ho.all fun p => decide (p.1 < m + k) && p.2.lt (m + k)) = true := by first | rfl | simp [LO.lt, LV.lts, LV.lt, lts_sv]) (hout : LV.lt (m + k) (.tup [l0, l1]) = true := by first | rfl | simp [LV.lts, LV.lt, lts_sv]) {e : Exit} (he : e = .normal ∨ e = .ret := by first | exact .inr rfl | exact .inl rfl) :
    ∀ cx a w, Rel B N [] (st E L n) cx a w → FnPost P fn B m (.tup [l0, l1]) Hi Ho k e a w :=
  FnPost.fin (res_TT h h0 h1) hA hmd hn hK hol hout he
theorem res_TA {fn : Func} {t0 : Nat} {l0 : LV} {t1 T1 o1 TB1 sz1 : Nat} {cs1 : List LV} (h : fn.results = #[.tmp t0, .cell t1 T1]) (f1 : AggF P T1 sz1)
    (h0 : en E t0 = some (true, l0) := by rfl) (h1 : en E t1 = some (true, .ptr o1 0) := by rfl) (b1 : hp L o1 = some (.box TB1 cs1) := by rfl) (c1 : cs1.length = sz1 := by rfl) :
    ResIs P B N D E L n fn (.tup [l0, .agg cs1]) := by
  intro cx a w hr
  obtain ⟨v1, ad1, p1, q1, r1⟩ := boxLoadA f1 hr h1 b1 c1
  refine ⟨.tuple #[a.tmps.getD t0 undef, v1], ?_, ?_⟩
  · simp only [Array.getD_eq_getD_getElem?] at p1
    simp [results, h, p1, asAddr, q1]
  · rw [V]
    refine ⟨[_, _], rfl, ?_⟩
    simp only [Vs]
    exact ⟨_, _, rfl, (hr.env t0 _ h0).1 rfl, _, _, rfl, r1, rfl⟩
theorem ret_TA {fn : Func} {t0 : Nat} {l0 : LV} {t1 T1 o1 TB1 sz1 : Nat} {cs1 : List LV} (h : fn.results = #[.tmp t0, .cell t1 T1]) (f1 : AggF P T1 sz1) {m k : Nat} {Hi Ho : List (Nat × LO)} (hA : ∀ o, B.cx.A o ↔ o < m) (hmd : B.md = blks B.cx (hp Hi))
    (h0 : en E t0 = some (true, l0) := by rfl) (h1 : en E t1 = some (true, .ptr o1 0) := by rfl) (b1 : hp L o1 = some (.box TB1 cs1) := by rfl) (c1 : cs1.length = sz1 := by rfl) (hn : m + k ≤ n := by first | omega | decide)
    (hK : KeepL (hp L) Ho := by repeat (first | exact trivial | refine ⟨rfl, ?_⟩))
    (hol : (Ho.all fun p => decide (p.1 < m + k) && p.2.lt (m + k)) = true := by first | rfl | simp [LO.lt, LV.lts, LV.lt, lts_sv]) (hout : LV.lt (m + k) (.tup [l0, .agg cs1]) = true := by first | rfl | simp [LV.lts, LV.lt, lts_sv]) {e : Exit} (he : e = .normal ∨ e = .ret := by first | exact .inr rfl | exact .inl rfl) :
    ∀ cx a w, Rel B N [] (st E L n) cx a w → FnPost P fn B m (.tup [l0, .agg cs1]) Hi Ho k e a w :=
  FnPost.fin (res_TA h f1 h0 h1 b1 c1) hA hmd hn hK hol hout he
theorem res_TB {fn : Func} {t0 : Nat} {l0 : LV} {t1 T1 o1 TB1 off1 : Nat} {cs1 : List LV} {l1 : LV} (h : fn.results = #[.tmp t0, .cell t1 T1]) (f1 : OneF P T1)
    (h0 : en E t0 = some (true, l0) := by rfl) (h1 : en E t1 = some (true, .ptr o1 off1) := by rfl) (b1 : hp L o1 = some (.box TB1 cs1) := by rfl) (c1 : cs1[off1]? = some l1 := by rfl) :
    ResIs P B N D E L n fn (.tup [l0, l1]) := by
  intro cx a w hr
  obtain ⟨v1, ad1, p1, q1, r1⟩ := boxLoad1 f1 hr h1 b1 c1
  refine ⟨.tuple #[a.tmps.getD t0 undef, v1], ?_, ?_⟩
  · simp only [Array.getD_eq_getD_getElem?] at p1
    simp [results, h, p1, asAddr, q1]
  · rw [V]
    refine ⟨[_, _], rfl, ?_⟩
    simp only [Vs]
    exact ⟨_, _, rfl, (hr.env t0 _ h0).1 rfl, _, _, rfl, r1, rfl⟩
theorem ret_TB {fn : Func} {t0 : Nat} {l0 : LV} {t1 T1 o1 TB1 off1 : Nat} {cs1 : List LV} {l1 : LV} (h : fn.results = #[.tmp t0, .cell t1 T1]) (f1 : OneF P T1) {m k : Nat} {Hi Ho : List (Nat × LO)} (hA : ∀ o, B.cx.A o ↔ o < m) (hmd : B.md = blks B.cx (hp Hi))
    (h0 : en E t0 = some (true, l0) := by rfl) (h1 : en E t1 = some (true, .ptr o1 off1) := by rfl) (b1 : hp L o1 = some (.box TB1 cs1) := by rfl) (c1 : cs1[off1]? = some l1 := by rfl) (hn : m + k ≤ n := by first | omega | decide)
    (hK : KeepL (hp L) Ho := by repeat (first | exact trivial | refine ⟨rfl, ?_⟩))
    (hol : (Ho.all fun p => decide (p.1 < m + k) && p.2.lt (m + k)) = true := by first | rfl | simp [LO.lt, LV.lts, LV.lt, lts_sv]) (hout : LV.lt (m + k) (.tup [l0, l1]) = true := by first | rfl | simp [LV.lts, LV.lt, lts_sv]) {e : Exit} (he : e = .normal ∨ e = .ret := by first | exact .inr rfl | exact .inl rfl) :
    ∀ cx a w, Rel B N [] (st E L n) cx a w → FnPost P fn B m (.tup [l0, l1]) Hi Ho k e a w :=
  FnPost.fin (res_TB h f1 h0 h1 b1 c1) hA hmd hn hK hol hout he
theorem res_AT {fn : Func} {t0 T0 o0 TB0 sz0 : Nat} {cs0 : List LV} {t1 : Nat} {l1 : LV} (h : fn.results = #[.cell t0 T0, .tmp t1]) (f0 : AggF P T0 sz0)
    (h0 : en E t0 = some (true, .ptr o0 0) := by rfl) (b0 : hp L o0 = some (.box TB0 cs0) := by rfl) (c0 : cs0.length = sz0 := by rfl) (h1 : en E t1 = some (true, l1) := by rfl) :
    ResIs P B N D E L n fn (.tup [.agg cs0, l1]) := by
  intro cx a w hr
  obtain ⟨v0, ad0, p0, q0, r0⟩ := boxLoadA f0 hr h0 b0 c0
  refine ⟨.tuple #[v0, a.tmps.getD t1 undef], ?_, ?_⟩
  · simp only [Array.getD_eq_getD_getElem?] at p0
    simp [results, h, p0, asAddr, q0]
  · rw [V]
    refine ⟨[_, _], rfl, ?_⟩
    simp only [Vs]
    exact ⟨_, _, rfl, r0, _, _, rfl, (hr.env t1 _ h1).1 rfl, rfl⟩
theorem ret_AT {fn : Func} {t0 T0 o0 TB0 sz0 : Nat} {cs0 : List LV} {t1 : Nat} {l1 : LV} (h : fn.results = #[.cell t0 T0, .tmp t1]) (f0 : AggF P T0 sz0) {m k : Nat} {Hi Ho : List (Nat × LO)} (hA : ∀ o, B.cx.A o ↔ o < m) (hmd : B.md = blks B.cx (hp Hi))
    (h0 : en E t0 = some (true, .ptr o0 0) := by rfl) (b0 : hp L o0 = some (.box TB0 cs0) := by rfl) (c0 : cs0.length = sz0 := by rfl) (h1 : en E t1 = some (true, l1) := by rfl) (hn : m + k ≤ n := by first | omega | decide)
    (hK : KeepL (hp L) Ho := by repeat (first | exact trivial | refine ⟨rfl, ?_⟩))
    (hol : (Ho.all fun p => decide (p.1 < m + k) && p.2.lt (m + k)) = true := by first | rfl | simp [LO.lt, LV.lts, LV.lt, lts_sv]) (hout : LV.lt (m + k) (.tup [.agg cs0, l1]) = true := by first | rfl | simp [LV.lts, LV.lt, lts_sv]) {e : Exit} (he : e = .normal ∨ e = .ret := by first | exact .inr rfl | exact .inl rfl) :
    ∀ cx a w, Rel B N [] (st E L n) cx a w → FnPost P fn B m (.tup [.agg cs0, l1]) Hi Ho k e a w :=
  FnPost.fin (res_AT h f0 h0 b0 c0 h1) hA hmd hn hK hol hout he
theorem res_AA {fn : Func} {t0 T0 o0 TB0 sz0 : Nat} {cs0 : List LV} {t1 T1 o1 TB1 sz1 : Nat} {cs1 : List LV} (h : fn.results = #[.cell t0 T0, .cell t1 T1]) (f0 : AggF P T0 sz0) (f1 : AggF P T1 sz1)
    (h0 : en E t0 = some (true, .ptr o0 0) := by rfl) (b0 : hp L o0 = some (.box TB0 cs0) := by rfl) (c0 : cs0.length = sz0 := by rfl) (h1 : en E t1 = some (true, .ptr o1 0) := by rfl) (b1 : hp L o1 = some (.box TB1 cs1) := by rfl) (c1 : cs1.length = sz1 := by rfl) :
    ResIs P B N D E L n fn (.tup [.agg cs0, .agg cs1]) := by
  intro cx a w hr
  obtain ⟨v0, ad0, p0, q0, r0⟩ := boxLoadA f0 hr h0 b0 c0
  obtain ⟨v1, ad1, p1, q1, r1⟩ := boxLoadA f1 hr h1 b1 c1
  refine ⟨.tuple #[v0, v1], ?_, ?_⟩
  · simp only [Array.getD_eq_getD_getElem?] at p0 p1
    simp [results, h, p0, asAddr, q0, p1, asAddr, q1]
  · rw [V]
    refine ⟨[_, _], rfl, ?_⟩
    simp only [Vs]
    exact ⟨_, _, rfl, r0, _, _, rfl, r1, rfl⟩
theorem ret_AA {fn : Func} {t0 T0 o0 TB0 sz0 : Nat} {cs0 : List LV} {t1 T1 o1 TB1 sz1 : Nat} {cs1 : List LV} (h : fn.results = #[.cell t0 T0, .cell t1 T1]) (f0 : AggF P T0 sz0) (f1 : AggF P T1 sz1) {m k : Nat} {Hi Ho : List (Nat × LO)} (hA : ∀ o, B.cx.A o ↔ o < m) (hmd : B.md = blks B.cx (hp Hi))
    (h0 : en E t0 = some (true, .ptr o0 0) := by rfl) (b0 : hp L o0 = some (.box TB0 cs0) := by rfl) (c0 : cs0.length = sz0 := by rfl) (h1 : en E t1 = some (true, .ptr o1 0) := by rfl) (b1 : hp L o1 = some (.box TB1 cs1) := by rfl) (c1 : cs1.length = sz1 := by rfl) (hn : m + k ≤ n := by first | omega | decide)
    (hK : KeepL (hp L) Ho := by repeat (first | exact trivial | refine ⟨rfl, ?_⟩))
    (hol : (Ho.all fun p => decide (p.1 < m + k) && p.2.lt (m + k)) = true := by first | rfl | simp [LO.lt, LV.lts, LV.lt, lts_sv]) (hout : LV.lt (m + k) (.tup [.agg cs0, .agg cs1]) = true := by first | rfl | simp [LV.lts, LV.lt, lts_sv]) {e : Exit} (he : e = .normal ∨ e = .ret := by first | exact .inr rfl | exact .inl rfl) :
    ∀ cx a w, Rel B N [] (st E L n) cx a w → FnPost P fn B m (.tup [.agg cs0, .agg cs1]) Hi Ho k e a w :=
  FnPost.fin (res_AA h f0 f1 h0 b0 c0 h1 b1 c1) hA hmd hn hK hol hout he
theorem res_AB {fn : Func} {t0 T0 o0 TB0 sz0 : Nat} {cs0 : List LV} {t1 T1 o1 TB1 off1 : Nat} {cs1 : List LV} {l1 : LV} (h : fn.results = #[.cell t0 T0, .cell t1 T1]) (f0 : AggF P T0 sz0) (f1 : OneF P T1)
    (h0 : en E t0 = some (true, .ptr o0 0) := by rfl) (b0 : hp L o0 = some (.box TB0 cs0) := by rfl) (c0 : cs0.length = sz0 := by rfl) (h1 : en E t1 = some (true, .ptr o1 off1) := by rfl) (b1 : hp L o1 = some (.box TB1 cs1) := by rfl) (c1 : cs1[off1]? = some l1 := by rfl) :
    ResIs P B N D E L n fn (.tup [.agg cs0, l1]) := by
  intro cx a w hr
  obtain ⟨v0, ad0, p0, q0, r0⟩ := boxLoadA f0 hr h0 b0 c0
  obtain ⟨v1, ad1, p1, q1, r1⟩ := boxLoad1 f1 hr h1 b1 c1
  refine ⟨.tuple #[v0, v1], ?_, ?_⟩
  · simp only [Array.getD_eq_getD_getElem?] at p0 p1
    simp [results, h, p0, asAddr, q0, p1, asAddr, q1]
  · rw [V]
    refine ⟨[_, _], rfl, ?_⟩
    simp only [Vs]
    exact ⟨_, _, rfl, r0, _, _, rfl, r1, rfl⟩
theorem ret_AB {fn : Func} {t0 T0 o0 TB0 sz0 : Nat} {cs0 : List LV} {t1 T1 o1 TB1 off1 : Nat} {cs1 : List LV} {l1 : LV} (h : fn.results = #[.cell t0 T0, .cell t1 T1]) (f0 : AggF P T0 sz0) (f1 : OneF P T1) {m k : Nat} {Hi Ho : List (Nat × LO)} (hA : ∀ o, B.cx.A o ↔ o < m) (hmd : B.md = blks B.cx (hp Hi))
    (h0 : en E t0 = some (true, .ptr o0 0) := by rfl) (b0 : hp L o0 = some (.box TB0 cs0) := by rfl) (c0 : cs0.length = sz0 := by rfl) (h1 : en E t1 = some (true, .ptr o1 off1) := by rfl) (b1 : hp L o1 = some (.box TB1 cs1) := by rfl) (c1 : cs1[off1]? = some l1 := by rfl) (hn : m + k ≤ n := by first | omega | decide)
    (hK : KeepL (hp L) Ho := by repeat (first | exact trivial | refine ⟨rfl, ?_⟩))
    (hol : (Ho.all fun p => decide (p.1 < m + k) && p.2.lt (m + k)) = true := by first | rfl | simp [LO.lt, LV.lts, LV.lt, lts_sv]) (hout : LV.lt (m + k) (.tup [.agg cs0, l1]) = true := by first | rfl | simp [LV.lts, LV.lt, lts_sv]) {e : Exit} (he : e = .normal ∨ e = .ret := by first | exact .inr rfl | exact .inl rfl) :
    ∀ cx a w, Rel B N [] (st E L n) cx a w → FnPost P fn B m (.tup [.agg cs0, l1]) Hi Ho k e a w :=
  FnPost.fin (res_AB h f0 f1 h0 b0 c0 h1 b1 c1) hA hmd hn hK hol hout he
theorem res_BT {fn : Func} {t0 T0 o0 TB0 off0 : Nat} {cs0 : List LV} {l0 : LV} {t1 : Nat} {l1 : LV} (h : fn.results = #[.cell t0 T0, .tmp t1]) (f0 : OneF P T0)
    (h0 : en E t0 = some (true, .ptr o0 off0) := by rfl) (b0 : hp L o0 = some (.box TB0 cs0) := by rfl) (c0 : cs0[off0]? = some l0 := by rfl) (h1 : en E t1 = some (true, l1) := by rfl) :
    ResIs P B N D E L n fn (.tup [l0, l1]) := by
  intro cx a w hr
  obtain ⟨v0, ad0, p0, q0, r0⟩ := boxLoad1 f0 hr h0 b0 c0
  refine ⟨.tuple #[v0, a.tmps.getD t1 undef], ?_, ?_⟩
  · simp only [Array.getD_eq_getD_getElem?] at p0
    simp [results, h, p0, asAddr, q0]
  · rw [V]
    refine ⟨[_, _], rfl, ?_⟩
    simp only [Vs]
    exact ⟨_, _, rfl, r0, _, _, rfl, (hr.env t1 _ h1).1 rfl, rfl⟩
theorem ret_BT {fn : Func} {t0 T0 o0 TB0 off0 : Nat} {cs0 : List LV} {l0 : LV} {t1 : Nat} {l1 : LV} (h : fn.results = #[.cell t0 T0, .tmp t1]) (f0 : OneF P T0) {m k : Nat} {Hi Ho : List (Nat × LO)} (hA : ∀ o, B.cx.A o ↔ o < m) (hmd : B.md = blks B.cx (hp Hi))
    (h0 : en E t0 = some (true, .ptr o0 off0) := by rfl) (b0 : hp L o0 = some (.box TB0 cs0) := by rfl) (c0 : cs0[off0]? = some l0 := by rfl) (h1 : en E t1 = some (true, l1) := by rfl) (hn : m + k ≤ n := by first | omega | decide)
    (hK : KeepL (hp L) Ho := by repeat (first | exact trivial | refine ⟨rfl, ?_⟩))
    (hol : (Ho.all fun p => decide (p.1 < m + k) && p.2.lt (m + k)) = true := by first | rfl | simp [LO.lt, LV.lts, LV.lt, lts_sv]) (hout : LV.lt (m + k) (.tup [l0, l1]) = true := by first | rfl | simp [LV.lts, LV.lt, lts_sv]) {e : Exit} (he : e = .normal ∨ e = .ret := by first | exact .inr rfl | exact .inl rfl) :
    ∀ cx a w, Rel B N [] (st E L n) cx a w → FnPost P fn B m (.tup [l0, l1]) Hi Ho k e a w :=
  FnPost.fin (res_BT h f0 h0 b0 c0 h1) hA hmd hn hK hol hout he
theorem res_BA {fn : Func} {t0 T0 o0 TB0 off0 : Nat} {cs0 : List LV} {l0 : LV} {t1 T1 o1 TB1 sz1 : Nat} {cs1 : List LV} (h : fn.results = #[.cell t0 T0, .cell t1 T1]) (f0 : OneF P T0) (f1 : AggF P T1 sz1)
    (h0 : en E t0 = some (true, .ptr o0 off0) := by rfl) (b0 : hp L o0 = some (.box TB0 cs0) := by rfl) (c0 : cs0[off0]? = some l0 := by rfl) (h1 : en E t1 = some (true, .ptr o1 0) := by rfl) (b1 : hp L o1 = some (.box TB1 cs1) := by rfl) (c1 : cs1.length = sz1 := by rfl) :
    ResIs P B N D E L n fn (.tup [l0, .agg cs1]) := by
  intro cx a w hr
  obtain ⟨v0, ad0, p0, q0, r0⟩ := boxLoad1 f0 hr h0 b0 c0
  obtain ⟨v1, ad1, p1, q1, r1⟩ := boxLoadA f1 hr h1 b1 c1
  refine ⟨.tuple #[v0, v1], ?_, ?_⟩
  · simp only [Array.getD_eq_getD_getElem?] at p0 p1
    simp [results, h, p0, asAddr, q0, p1, asAddr, q1]
  · rw [V]
    refine ⟨[_, _], rfl, ?_⟩
    simp only [Vs]
    exact ⟨_, _, rfl, r0, _, _, rfl, r1, rfl⟩
theorem ret_BA {fn : Func} {t0 T0 o0 TB0 off0 : Nat} {cs0 : List LV} {l0 : LV} {t1 T1 o1 TB1 sz1 : Nat} {cs1 : List LV} (h : fn.results = #[.cell t0 T0, .cell t1 T1]) (f0 : OneF P T0) (f1 : AggF P T1 sz1) {m k : Nat} {Hi Ho : List (Nat × LO)} (hA : ∀ o, B.cx.A o ↔ o < m) (hmd : B.md = blks B.cx (hp Hi))
    (h0 : en E t0 = some (true, .ptr o0 off0) := by rfl) (b0 : hp L o0 = some (.box TB0 cs0) := by rfl) (c0 : cs0[off0]? = some l0 := by rfl) (h1 : en E t1 = some (true, .ptr o1 0) := by rfl) (b1 : hp L o1 = some (.box TB1 cs1) := by rfl) (c1 : cs1.length = sz1 := by rfl) (hn : m + k ≤ n := by first | omega | decide)
    (hK : KeepL (hp L) Ho := by repeat (first | exact trivial | refine ⟨rfl, ?_⟩))
    (hol : (Ho.all fun p => decide (p.1 < m + k) && p.2.lt (m + k)) = true := by first | rfl | simp [LO.lt, LV.lts, LV.lt, lts_sv]) (hout : LV.lt (m + k) (.tup [l0, .agg cs1]) = true := by first | rfl | simp [LV.lts, LV.lt, lts_sv]) {e : Exit} (he : e = .normal ∨ e = .ret := by first | exact .inr rfl | exact .inl rfl) :
    ∀ cx a w, Rel B N [] (st E L n) cx a w → FnPost P fn B m (.tup [l0, .agg cs1]) Hi Ho k e a w :=
  FnPost.fin (res_BA h f0 f1 h0 b0 c0 h1 b1 c1) hA hmd hn hK hol hout he
theorem res_BB {fn : Func} {t0 T0 o0 TB0 off0 : Nat} {cs0 : List LV} {l0 : LV} {t1 T1 o1 TB1 off1 : Nat} {cs1 : List LV} {l1 : LV} (h : fn.results = #[.cell t0 T0, .cell t1 T1]) (f0 : OneF P T0) (f1 : OneF P T1)
    (h0 : en E t0 = some (true, .ptr o0 off0) := by rfl) (b0 : hp L o0 = some (.box TB0 cs0) := by rfl) (c0 : cs0[off0]? = some l0 := by rfl) (h1 : en E t1 = some (true, .ptr o1 off1) := by rfl) (b1 : hp L o1 = some (.box TB1 cs1) := by rfl) (c1 : cs1[off1]? = some l1 := by rfl) :
    ResIs P B N D E L n fn (.tup [l0, l1]) := by
  intro cx a w hr
  obtain ⟨v0, ad0, p0, q0, r0⟩ := boxLoad1 f0 hr h0 b0 c0
  obtain ⟨v1, ad1, p1, q1, r1⟩ := boxLoad1 f1 hr h1 b1 c1
  refine ⟨.tuple #[v0, v1], ?_, ?_⟩
  · simp only [Array.getD_eq_getD_getElem?] at p0 p1
    simp [results, h, p0, asAddr, q0, p1, asAddr, q1]
  · rw [V]
    refine ⟨[_, _], rfl, ?_⟩
    simp only [Vs]
    exact ⟨_, _, rfl, r0, _, _, rfl, r1, rfl⟩
theorem ret_BB {fn : Func} {t0 T0 o0 TB0 off0 : Nat} {cs0 : List LV} {l0 : LV} {t1 T1 o1 TB1 off1 : Nat} {cs1 : List LV} {l1 : LV} (h : fn.results = #[.cell t0 T0, .cell t1 T1]) (f0 : OneF P T0) (f1 : OneF P T1) {m k : Nat} {Hi Ho : List (Nat × LO)} (hA : ∀ o, B.cx.A o ↔ o < m) (hmd : B.md = blks B.cx (hp Hi))
    (h0 : en E t0 = some (true, .ptr o0 off0) := by rfl) (b0 : hp L o0 = some (.box TB0 cs0) := by rfl) (c0 : cs0[off0]? = some l0 := by rfl) (h1 : en E t1 = some (true, .ptr o1 off1) := by rfl) (b1 : hp L o1 = some (.box TB1 cs1) := by rfl) (c1 : cs1[off1]? = some l1 := by rfl) (hn : m + k ≤ n := by first | omega | decide)
    (hK : KeepL (hp L) Ho := by repeat (first | exact trivial | refine ⟨rfl, ?_⟩))
    (hol : (Ho.all fun p => decide (p.1 < m + k) && p.2.lt (m + k)) = true := by first | rfl | simp [LO.lt, LV.lts, LV.lt, lts_sv]) (hout : LV.lt (m + k) (.tup [l0, l1]) = true := by first | rfl | simp [LV.lts, LV.lt, lts_sv]) {e : Exit} (he : e = .normal ∨ e = .ret := by first | exact .inr rfl | exact .inl rfl) :
    ∀ cx a w, Rel B N [] (st E L n) cx a w → FnPost P fn B m (.tup [l0, l1]) Hi Ho k e a w :=
  FnPost.fin (res_BB h f0 f1 h0 b0 c0 h1 b1 c1) hA hmd hn hK hol hout he
theorem res_TTT {fn : Func} {t0 : Nat} {l0 : LV} {t1 : Nat} {l1 : LV} {t2 : Nat} {l2 : LV} (h : fn.results = #[.tmp t0, .tmp t1, .tmp t2]) 
    (h0 : en E t0 = some (true, l0) := by rfl) (h1 : en E t1 = some (true, l1) := by rfl) (h2 : en E t2 = some (true, l2) := by rfl) :
    ResIs P B N D E L n fn (.tup [l0, l1, l2]) := by
  intro cx a w hr
  refine ⟨.tuple #[a.tmps.getD t0 undef, a.tmps.getD t1 undef, a.tmps.getD t2 undef], ?_, ?_⟩
  · simp [results, h]
  · simp only [V, Vs]
    exact ⟨[_, _, _], rfl, _, _, rfl, (hr.env t0 _ h0).1 rfl, _, _, rfl, (hr.env t1 _ h1).1 rfl, _, _, rfl, (hr.env t2 _ h2).1 rfl, rfl⟩
theorem ret_TTT {fn : Func} {t0 : Nat} {l0 : LV} {t1 : Nat} {l1 : LV} {t2 : Nat} {l2 : LV} (h : fn.results = #[.tmp t0, .tmp t1, .tmp t2])  {m k : Nat} {Hi Ho : List (Nat × LO)} (hA : ∀ o, B.cx.A o ↔ o < m) (hmd : B.md = blks B.cx (hp Hi))
    (h0 : en E t0 = some (true, l0) := by rfl) (h1 : en E t1 = some (true, l1) := by rfl) (h2 : en E t2 = some (true, l2) := by rfl) (hn : m + k ≤ n := by first | omega | decide)
    (hK : KeepL (hp L) Ho := by repeat (first | exact trivial | refine ⟨rfl, ?_⟩))
    (hol : (Ho.all fun p => decide (p.1 < m + k) && p.2.lt (m + k)) = true := by first | rfl | simp [LO.lt, LV.lts, LV.lt, lts_sv]) (hout : LV.lt (m + k) (.tup [l0, l1, l2]) = true := by first | rfl | simp [LV.lts, LV.lt, lts_sv]) {e : Exit} (he : e = .normal ∨ e = .ret := by first | exact .inr rfl | exact .inl rfl) :
    ∀ cx a w, Rel B N [] (st E L n) cx a w → FnPost P fn B m (.tup [l0, l1, l2]) Hi Ho k e a w :=
  FnPost.fin (res_TTT h h0 h1 h2) hA hmd hn hK hol hout he
theorem res_TTA {fn : Func} {t0 : Nat} {l0 : LV} {t1 : Nat} {l1 : LV} {t2 T2 o2 TB2 sz2 : Nat} {cs2 : List LV} (h : fn.results = #[.tmp t0, .tmp t1, .cell t2 T2]) (f2 : AggF P T2 sz2)
    (h0 : en E t0 = some (true, l0) := by rfl) (h1 : en E t1 = some (true, l1) := by rfl) (h2 : en E t2 = some (true, .ptr o2 0) := by rfl) (b2 : hp L o2 = some (.box TB2 cs2) := by rfl) (c2 : cs2.length = sz2 := by rfl) :
    ResIs P B N D E L n fn (.tup [l0, l1, .agg cs2]) := by
  intro cx a w hr
  obtain ⟨v2, ad2, p2, q2, r2⟩ := boxLoadA f2 hr h2 b2 c2
  refine ⟨.tuple #[a.tmps.getD t0 undef, a.tmps.getD t1 undef, v2], ?_, ?_⟩
  · simp only [Array.getD_eq_getD_getElem?] at p2
    simp [results, h, p2, asAddr, q2]
  · rw [V]
    refine ⟨[_, _, _], rfl, ?_⟩
    simp only [Vs]
    exact ⟨_, _, rfl, (hr.env t0 _ h0).1 rfl, _, _, rfl, (hr.env t1 _ h1).1 rfl, _, _, rfl, r2, rfl⟩
theorem ret_TTA {fn : Func} {t0 : Nat} {l0 : LV} {t1 : Nat} {l1 : LV} {t2 T2 o2 TB2 sz2 : Nat} {cs2 : List LV} (h : fn.results = #[.tmp t0, .tmp t1, .cell t2 T2]) (f2 : AggF P T2 sz2) {m k : Nat} {Hi Ho : List (Nat × LO)} (hA : ∀ o, B.cx.A o ↔ o < m) (hmd : B.md = blks B.cx (hp Hi))
    (h0 : en E t0 = some (true, l0) := by rfl) (h1 : en E t1 = some (true, l1) := by rfl) (h2 : en E t2 = some (true, .ptr o2 0) := by rfl) (b2 : hp L o2 = some (.box TB2 cs2) := by rfl) (c2 : cs2.length = sz2 := by rfl) (hn : m + k ≤ n := by first | omega | decide)
    (hK : KeepL (hp L) Ho := by repeat (first | exact trivial | refine ⟨rfl, ?_⟩))
    (hol : (Ho.all fun p => decide (p.1 < m + k) && p.2.lt (m + k)) = true := by first | rfl | simp [LO.lt, LV.lts, LV.lt, lts_sv]) (hout : LV.lt (m + k) (.tup [l0, l1, .agg cs2]) = true := by first | rfl | simp [LV.lts, LV.lt, lts_sv]) {e : Exit} (he : e = .normal ∨ e = .ret := by first | exact .inr rfl | exact .inl rfl) :
    ∀ cx a w, Rel B N [] (st E L n) cx a w → FnPost P fn B m (.tup [l0, l1, .agg cs2]) Hi Ho k e a w :=
  FnPost.fin (res_TTA h f2 h0 h1 h2 b2 c2) hA hmd hn hK hol hout he
theorem res_TTB {fn : Func} {t0 : Nat} {l0 : LV} {t1 : Nat} {l1 : LV} {t2 T2 o2 TB2 off2 : Nat} {cs2 : List LV} {l2 : LV} (h : fn.results = #[.tmp t0, .tmp t1, .cell t2 T2]) (f2 : OneF P T2)
    (h0 : en E t0 = some (true, l0) := by rfl) (h1 : en E t1 = some (true, l1) := by rfl) (h2 : en E t2 = some (true, .ptr o2 off2) := by rfl) (b2 : hp L o2 = some (.box TB2 cs2) := by rfl) (c2 : cs2[off2]? = some l2 := by rfl) :
    ResIs P B N D E L n fn (.tup [l0, l1, l2]) := by
  intro cx a w hr
  obtain ⟨v2, ad2, p2, q2, r2⟩ := boxLoad1 f2 hr h2 b2 c2
  refine ⟨.tuple #[a.tmps.getD t0 undef, a.tmps.getD t1 undef, v2], ?_, ?_⟩
  · simp only [Array.getD_eq_getD_getElem?] at p2
    simp [results, h, p2, asAddr, q2]
  · rw [V]
    refine ⟨[_, _, _], rfl, ?_⟩
    simp only [Vs]
    exact ⟨_, _, rfl, (hr.env t0 _ h0).1 rfl, _, _, rfl, (hr.env t1 _ h1).1 rfl, _, _, rfl, r2, rfl⟩
theorem ret_TTB {fn : Func} {t0 : Nat} {l0 : LV} {t1 : Nat} {l1 : LV} {t2 T2 o2 TB2 off2 : Nat} {cs2 : List LV} {l2 : LV} (h : fn.results = #[.tmp t0, .tmp t1, .cell t2 T2]) (f2 : OneF P T2) {m k : Nat} {Hi Ho : List (Nat × LO)} (hA : ∀ o, B.cx.A o ↔ o < m) (hmd : B.md = blks B.cx (hp Hi))
    (h0 : en E t0 = some (true, l0) := by rfl) (h1 : en E t1 = some (true, l1) := by rfl) (h2 : en E t2 = some (true, .ptr o2 off2) := by rfl) (b2 : hp L o2 = some (.box TB2 cs2) := by rfl) (c2 : cs2[off2]? = some l2 := by rfl) (hn : m + k ≤ n := by first | omega | decide)
    (hK : KeepL (hp L) Ho := by repeat (first | exact trivial | refine ⟨rfl, ?_⟩))
    (hol : (Ho.all fun p => decide (p.1 < m + k) && p.2.lt (m + k)) = true := by first | rfl | simp [LO.lt, LV.lts, LV.lt, lts_sv]) (hout : LV.lt (m + k) (.tup [l0, l1, l2]) = true := by first | rfl | simp [LV.lts, LV.lt, lts_sv]) {e : Exit} (he : e = .normal ∨ e = .ret := by first | exact .inr rfl | exact .inl rfl) :
    ∀ cx a w, Rel B N [] (st E L n) cx a w → FnPost P fn B m (.tup [l0, l1, l2]) Hi Ho k e a w :=
  FnPost.fin (res_TTB h f2 h0 h1 h2 b2 c2) hA hmd hn hK hol hout he
theorem res_TAT {fn : Func} {t0 : Nat} {l0 : LV} {t1 T1 o1 TB1 sz1 : Nat} {cs1 : List LV} {t2 : Nat} {l2 : LV} (h : fn.results = #[.tmp t0, .cell t1 T1, .tmp t2]) (f1 : AggF P T1 sz1)
    (h0 : en E t0 = some (true, l0) := by rfl) (h1 : en E t1 = some (true, .ptr o1 0) := by rfl) (b1 : hp L o1 = some (.box TB1 cs1) := by rfl) (c1 : cs1.length = sz1 := by rfl) (h2 : en E t2 = some (true, l2) := by rfl) :
    ResIs P B N D E L n fn (.tup [l0, .agg cs1, l2]) := by
  intro cx a w hr
  obtain ⟨v1, ad1, p1, q1, r1⟩ := boxLoadA f1 hr h1 b1 c1
  refine ⟨.tuple #[a.tmps.getD t0 undef, v1, a.tmps.getD t2 undef], ?_, ?_⟩
  · simp only [Array.getD_eq_getD_getElem?] at p1
    simp [results, h, p1, asAddr, q1]
  · rw [V]
    refine ⟨[_, _, _], rfl, ?_⟩
    simp only [Vs]
    exact ⟨_, _, rfl, (hr.env t0 _ h0).1 rfl, _, _, rfl, r1, _, _, rfl, (hr.env t2 _ h2).1 rfl, rfl⟩
theorem ret_TAT {fn : Func} {t0 : Nat} {l0 : LV} {t1 T1 o1 TB1 sz1 : Nat} {cs1 : List LV} {t2 : Nat} {l2 : LV} (h : fn.results = #[.tmp t0, .cell t1 T1, .tmp t2]) (f1 : AggF P T1 sz1) {m k : Nat} {Hi Ho : List (Nat × LO)} (hA : ∀ o, B.cx.A o ↔ o < m) (hmd : B.md = blks B.cx (hp Hi))
    (h0 : en E t0 = some (true, l0) := by rfl) (h1 : en E t1 = some (true, .ptr o1 0) := by rfl) (b1 : hp L o1 = some (.box TB1 cs1) := by rfl) (c1 : cs1.length = sz1 := by rfl) (h2 : en E t2 = some (true, l2) := by rfl) (hn : m + k ≤ n := by first | omega | decide)
    (hK : KeepL (hp L) Ho := by repeat (first | exact trivial | refine ⟨rfl, ?_⟩))
    (hol : (Ho.all fun p => decide (p.1 < m + k) && p.2.lt (m + k)) = true := by first | rfl | simp [LO.lt, LV.lts, LV.lt, lts_sv]) (hout : LV.lt (m + k) (.tup [l0, .agg cs1, l2]) = true := by first | rfl | simp [LV.lts, LV.lt, lts_sv]) {e : Exit} (he : e = .normal ∨ e = .ret := by first | exact .inr rfl | exact .inl rfl) :
    ∀ cx a w, Rel B N [] (st E L n) cx a w → FnPost P fn B m (.tup [l0, .agg cs1, l2]) Hi Ho k e a w :=
  FnPost.fin (res_TAT h f1 h0 h1 b1 c1 h2) hA hmd hn hK hol hout he
theorem res_TAA {fn : Func} {t0 : Nat} {l0 : LV} {t1 T1 o1 TB1 sz1 : Nat} {cs1 : List LV} {t2 T2 o2 TB2 sz2 : Nat} {cs2 : List LV} (h : fn.results = #[.tmp t0, .cell t1 T1, .cell t2 T2]) (f1 : AggF P T1 sz1) (f2 : AggF P T2 sz2)
    (h0 : en E t0 = some (true, l0) := by rfl) (h1 : en E t1 = some (true, .ptr o1 0) := by rfl) (b1 : hp L o1 = some (.box TB1 cs1) := by rfl) (c1 : cs1.length = sz1 := by rfl) (h2 : en E t2 = some (true, .ptr o2 0) := by rfl) (b2 : hp L o2 = some (.box TB2 cs2) := by rfl) (c2 : cs2.length = sz2 := by rfl) :
    ResIs P B N D E L n fn (.tup [l0, .agg cs1, .agg cs2]) := by
  intro cx a w hr
  obtain ⟨v1, ad1, p1, q1, r1⟩ := boxLoadA f1 hr h1 b1 c1
  obtain ⟨v2, ad2, p2, q2, r2⟩ := boxLoadA f2 hr h2 b2 c2
  refine ⟨.tuple #[a.tmps.getD t0 undef, v1, v2], ?_, ?_⟩
  · simp only [Array.getD_eq_getD_getElem?] at p1 p2
    simp [results, h, p1, asAddr, q1, p2, asAddr, q2]
  · rw [V]
    refine ⟨[_, _, _], rfl, ?_⟩
    simp only [Vs]
    exact ⟨_, _, rfl, (hr.env t0 _ h0).1 rfl, _, _, rfl, r1, _, _, rfl, r2, rfl⟩
theorem ret_TAA {fn : Func} {t0 : Nat} {l0 : LV} {t1 T1 o1 TB1 sz1 : Nat} {cs1 : List LV} {t2 T2 o2 TB2 sz2 : Nat} {cs2 : List LV} (h : fn.results = #[.tmp t0, .cell t1 T1, .cell t2 T2]) (f1 : AggF P T1 sz1) (f2 : AggF P T2 sz2) {m k : Nat} {Hi Ho : List (Nat × LO)} (hA : ∀ o, B.cx.A o ↔ o < m) (hmd : B.md = blks B.cx (hp Hi))
    (h0 : en E t0 = some (true, l0) := by rfl) (h1 : en E t1 = some (true, .ptr o1 0) := by rfl) (b1 : hp L o1 = some (.box TB1 cs1) := by rfl) (c1 : cs1.length = sz1 := by rfl) (h2 : en E t2 = some (true, .ptr o2 0) := by rfl) (b2 : hp L o2 = some (.box TB2 cs2) := by rfl) (c2 : cs2.length = sz2 := by rfl) (hn : m + k ≤ n := by first | omega | decide)
    (hK : KeepL (hp L) Ho := by repeat (first | exact trivial | refine ⟨rfl, ?_⟩))
    (hol : (Ho.all fun p => decide (p.1 < m + k) && p.2.lt (m + k)) = true := by first | rfl | simp [LO.lt, LV.lts, LV.lt, lts_sv]) (hout : LV.lt (m + k) (.tup [l0, .agg cs1, .agg cs2]) = true := by first | rfl | simp [LV.lts, LV.lt, lts_sv]) {e : Exit} (he : e = .normal ∨ e = .ret := by first | exact .inr rfl | exact .inl rfl) :
    ∀ cx a w, Rel B N [] (st E L n) cx a w → FnPost P fn B m (.tup [l0, .agg cs1, .agg cs2]) Hi Ho k e a w :=
  FnPost.fin (res_TAA h f1 f2 h0 h1 b1 c1 h2 b2 c2) hA hmd hn hK hol hout he
theorem res_TAB {fn : Func} {t0 : Nat} {l0 : LV} {t1 T1 o1 TB1 sz1 : Nat} {cs1 : List LV} {t2 T2 o2 TB2 off2 : Nat} {cs2 : List LV} {l2 : LV} (h : fn.results = #[.tmp t0, .cell t1 T1, .cell t2 T2]) (f1 : AggF P T1 sz1) (f2 : OneF P T2)
    (h0 : en E t0 = some (true, l0) := by rfl) (h1 : en E t1 = some (true, .ptr o1 0) := by rfl) (b1 : hp L o1 = some (.box TB1 cs1) := by rfl) (c1 : cs1.length = sz1 := by rfl) (h2 : en E t2 = some (true, .ptr o2 off2) := by rfl) (b2 : hp L o2 = some (.box TB2 cs2) := by rfl) (c2 : cs2[off2]? = some l2 := by rfl) :
    ResIs P B N D E L n fn (.tup [l0, .agg cs1, l2]) := by
  intro cx a w hr
  obtain ⟨v1, ad1, p1, q1, r1⟩ := boxLoadA f1 hr h1 b1 c1
  obtain ⟨v2, ad2, p2, q2, r2⟩ := boxLoad1 f2 hr h2 b2 c2
  refine ⟨.tuple #[a.tmps.getD t0 undef, v1, v2], ?_, ?_⟩
  · simp only [Array.getD_eq_getD_getElem?] at p1 p2
    simp [results, h, p1, asAddr, q1, p2, asAddr, q2]
  · rw [V]
    refine ⟨[_, _, _], rfl, ?_⟩
    simp only [Vs]
    exact ⟨_, _, rfl, (hr.env t0 _ h0).1 rfl, _, _, rfl, r1, _, _, rfl, r2, rfl⟩
theorem ret_TAB {fn : Func} {t0 : Nat} {l0 : LV} {t1 T1 o1 TB1 sz1 : Nat} {cs1 : List LV} {t2 T2 o2 TB2 off2 : Nat} {cs2 : List LV} {l2 : LV} (h : fn.results = #[.tmp t0, .cell t1 T1, .cell t2 T2]) (f1 : AggF P T1 sz1) (f2 : OneF P T2) {m k : Nat} {Hi Ho : List (Nat × LO)} (hA : ∀ o, B.cx.A o ↔ o < m) (hmd : B.md = blks B.cx (hp Hi))
    (h0 : en E t0 = some (true, l0) := by rfl) (h1 : en E t1 = some (true, .ptr o1 0) := by rfl) (b1 : hp L o1 = some (.box TB1 cs1) := by rfl) (c1 : cs1.length = sz1 := by rfl) (h2 : en E t2 = some (true, .ptr o2 off2) := by rfl) (b2 : hp L o2 = some (.box TB2 cs2) := by rfl) (c2 : cs2[off2]? = some l2 := by rfl) (hn : m + k ≤ n := by first | omega | decide)
    (hK : KeepL (hp L) Ho := by repeat (first | exact trivial | refine ⟨rfl, ?_⟩))
    (hol : (Ho.all fun p => decide (p.1 < m + k) && p.2.lt (m + k)) = true := by first | rfl | simp [LO.lt, LV.lts, LV.lt, lts_sv]) (hout : LV.lt (m + k) (.tup [l0, .agg cs1, l2]) = true := by first | rfl | simp [LV.lts, LV.lt, lts_sv]) {e : Exit} (he : e = .normal ∨ e = .ret := by first | exact .inr rfl | exact .inl rfl) :
    ∀ cx a w, Rel B N [] (st E L n) cx a w → FnPost P fn B m (.tup [l0, .agg cs1, l2]) Hi Ho k e a w :=
  FnPost.fin (res_TAB h f1 f2 h0 h1 b1 c1 h2 b2 c2) hA hmd hn hK hol hout he
theorem res_TBT {fn : Func} {t0 : Nat} {l0 : LV} {t1 T1 o1 TB1 off1 : Nat} {cs1 : List LV} {l1 : LV} {t2 : Nat} {l2 : LV} (h : fn.results = #[.tmp t0, .cell t1 T1, .tmp t2]) (f1 : OneF P T1)
    (h0 : en E t0 = some (true, l0) := by rfl) (h1 : en E t1 = some (true, .ptr o1 off1) := by rfl) (b1 : hp L o1 = some (.box TB1 cs1) := by rfl) (c1 : cs1[off1]? = some l1 := by rfl) (h2 : en E t2 = some (true, l2) := by rfl) :
    ResIs P B N D E L n fn (.tup [l0, l1, l2]) := by
  intro cx a w hr
  obtain ⟨v1, ad1, p1, q1, r1⟩ := boxLoad1 f1 hr h1 b1 c1
  refine ⟨.tuple #[a.tmps.getD t0 undef, v1, a.tmps.getD t2 undef], ?_, ?_⟩
  · simp only [Array.getD_eq_getD_getElem?] at p1
    simp [results, h, p1, asAddr, q1]
  · rw [V]
    refine ⟨[_, _, _], rfl, ?_⟩
    simp only [Vs]
    exact ⟨_, _, rfl, (hr.env t0 _ h0).1 rfl, _, _, rfl, r1, _, _, rfl, (hr.env t2 _ h2).1 rfl, rfl⟩
theorem ret_TBT {fn : Func} {t0 : Nat} {l0 : LV} {t1 T1 o1 TB1 off1 : Nat} {cs1 : List LV} {l1 : LV} {t2 : Nat} {l2 : LV} (h : fn.results = #[.tmp t0, .cell t1 T1, .tmp t2]) (f1 : OneF P T1) {m k : Nat} {Hi Ho : List (Nat × LO)} (hA : ∀ o, B.cx.A o ↔ o < m) (hmd : B.md = blks B.cx (hp Hi))
    (h0 : en E t0 = some (true, l0) := by rfl) (h1 : en E t1 = some (true, .ptr o1 off1) := by rfl) (b1 : hp L o1 = some (.box TB1 cs1) := by rfl) (c1 : cs1[off1]? = some l1 := by rfl) (h2 : en E t2 = some (true, l2) := by rfl) (hn : m + k ≤ n := by first | omega | decide)
    (hK : KeepL (hp L) Ho := by repeat (first | exact trivial | refine ⟨rfl, ?_⟩))
    (hol : (Ho.all fun p => decide (p.1 < m + k) && p.2.lt (m + k)) = true := by first | rfl | simp [LO.lt, LV.lts, LV.lt, lts_sv]) (hout : LV.lt (m + k) (.tup [l0, l1, l2]) = true := by first | rfl | simp [LV.lts, LV.lt, lts_sv]) {e : Exit} (he : e = .normal ∨ e = .ret := by first | exact .inr rfl | exact .inl rfl) :
    ∀ cx a w, Rel B N [] (st E L n) cx a w → FnPost P fn B m (.tup [l0, l1, l2]) Hi Ho k e a w :=
  FnPost.fin (res_TBT h f1 h0 h1 b1 c1 h2) hA hmd hn hK hol hout he
theorem res_TBA {fn : Func} {t0 : Nat} {l0 : LV} {t1 T1 o1 TB1 off1 : Nat} {cs1 : List LV} {l1 : LV} {t2 T2 o2 TB2 sz2 : Nat} {cs2 : List LV} (h : fn.results = #[.tmp t0, .cell t1 T1, .cell t2 T2]) (f1 : OneF P T1) (f2 : AggF P T2 sz2)
    (h0 : en E t0 = some (true, l0) := by rfl) (h1 : en E t1 = some (true, .ptr o1 off1) := by rfl) (b1 : hp L o1 = some (.box TB1 cs1) := by rfl) (c1 : cs1[off1]? = some l1 := by rfl) (h2 : en E t2 = some (true, .ptr o2 0) := by rfl) (b2 : hp L o2 = some (.box TB2 cs2) := by rfl) (c2 : cs2.length = sz2 := by rfl) :
    ResIs P B N D E L n fn (.tup [l0, l1, .agg cs2]) := by
  intro cx a w hr
  obtain ⟨v1, ad1, p1, q1, r1⟩ := boxLoad1 f1 hr h1 b1 c1
  obtain ⟨v2, ad2, p2, q2, r2⟩ := boxLoadA f2 hr h2 b2 c2
  refine ⟨.tuple #[a.tmps.getD t0 undef, v1, v2], ?_, ?_⟩
  · simp only [Array.getD_eq_getD_getElem?] at p1 p2
    simp [results, h, p1, asAddr, q1, p2, asAddr, q2]
  · rw [V]
    refine ⟨[_, _, _], rfl, ?_⟩
    simp only [Vs]
    exact ⟨_, _, rfl, (hr.env t0 _ h0).1 rfl, _, _, rfl, r1, _, _, rfl, r2, rfl⟩
theorem ret_TBA {fn : Func} {t0 : Nat} {l0 : LV} {t1 T1 o1 TB1 off1 : Nat} {cs1 : List LV} {l1 : LV} {t2 T2 o2 TB2 sz2 : Nat} {cs2 : List LV} (h : fn.results = #[.tmp t0, .cell t1 T1, .cell t2 T2]) (f1 : OneF P T1) (f2 : AggF P T2 sz2) {m k : Nat} {Hi Ho : List (Nat × LO)} (hA : ∀ o, B.cx.A o ↔ o < m) (hmd : B.md = blks B.cx (hp Hi))
    (h0 : en E t0 = some (true, l0) := by rfl) (h1 : en E t1 = some (true, .ptr o1 off1) := by rfl) (b1 : hp L o1 = some (.box TB1 cs1) := by rfl) (c1 : cs1[off1]? = some l1 := by rfl) (h2 : en E t2 = some (true, .ptr o2 0) := by rfl) (b2 : hp L o2 = some (.box TB2 cs2) := by rfl) (c2 : cs2.length = sz2 := by rfl) (hn : m + k ≤ n := by first | omega | decide)
    (hK : KeepL (hp L) Ho := by repeat (first | exact trivial | refine ⟨rfl, ?_⟩))
    (hol : (Ho.all fun p => decide (p.1 < m + k) && p.2.lt (m + k)) = true := by first | rfl | simp [LO.lt, LV.lts, LV.lt, lts_sv]) (hout : LV.lt (m + k) (.tup [l0, l1, .agg cs2]) = true := by first | rfl | simp [LV.lts, LV.lt, lts_sv]) {e : Exit} (he : e = .normal ∨ e = .ret := by first | exact .inr rfl | exact .inl rfl) :
    ∀ cx a w, Rel B N [] (st E L n) cx a w → FnPost P fn B m (.tup [l0, l1, .agg cs2]) Hi Ho k e a w :=
  FnPost.fin (res_TBA h f1 f2 h0 h1 b1 c1 h2 b2 c2) hA hmd hn hK hol hout he
theorem res_TBB {fn : Func} {t0 : Nat} {l0 : LV} {t1 T1 o1 TB1 off1 : Nat} {cs1 : List LV} {l1 : LV} {t2 T2 o2 TB2 off2 : Nat} {cs2 : List LV} {l2 : LV} (h : fn.results = #[.tmp t0, .cell t1 T1, .cell t2 T2]) (f1 : OneF P T1) (f2 : OneF P T2)
    (h0 : en E t0 = some (true, l0) := by rfl) (h1 : en E t1 = some (true, .ptr o1 off1) := by rfl) (b1 : hp L o1 = some (.box TB1 cs1) := by rfl) (c1 : cs1[off1]? = some l1 := by rfl) (h2 : en E t2 = some (true, .ptr o2 off2) := by rfl) (b2 : hp L o2 = some (.box TB2 cs2) := by rfl) (c2 : cs2[off2]? = some l2 := by rfl) :
    ResIs P B N D E L n fn (.tup [l0, l1, l2]) := by
  intro cx a w hr
  obtain ⟨v1, ad1, p1, q1, r1⟩ := boxLoad1 f1 hr h1 b1 c1
  obtain ⟨v2, ad2, p2, q2, r2⟩ := boxLoad1 f2 hr h2 b2 c2
  refine ⟨.tuple #[a.tmps.getD t0 undef, v1, v2], ?_, ?_⟩
  · simp only [Array.getD_eq_getD_getElem?] at p1 p2
    simp [results, h, p1, asAddr, q1, p2, asAddr, q2]
  · rw [V]
    refine ⟨[_, _, _], rfl, ?_⟩
    simp only [Vs]
    exact ⟨_, _, rfl, (hr.env t0 _ h0).1 rfl, _, _, rfl, r1, _, _, rfl, r2, rfl⟩
theorem ret_TBB {fn : Func} {t0 : Nat} {l0 : LV} {t1 T1 o1 TB1 off1 : Nat} {cs1 : List LV} {l1 : LV} {t2 T2 o2 TB2 off2 : Nat} {cs2 : List LV} {l2 : LV} (h : fn.results = #[.tmp t0, .cell t1 T1, .cell t2 T2]) (f1 : OneF P T1) (f2 : OneF P T2) {m k : Nat} {Hi Ho : List (Nat × LO)} (hA : ∀ o, B.cx.A o ↔ o < m) (hmd : B.md = blks B.cx (hp Hi))
    (h0 : en E t0 = some (true, l0) := by rfl) (h1 : en E t1 = some (true, .ptr o1 off1) := by rfl) (b1 : hp L o1 = some (.box TB1 cs1) := by rfl) (c1 : cs1[off1]? = some l1 := by rfl) (h2 : en E t2 = some (true, .ptr o2 off2) := by rfl) (b2 : hp L o2 = some (.box TB2 cs2) := by rfl) (c2 : cs2[off2]? = some l2 := by rfl) (hn : m + k ≤ n := by first | omega | decide)
    (hK : KeepL (hp L) Ho := by repeat (first | exact trivial | refine ⟨rfl, ?_⟩))
    (hol : (Ho.all fun p => decide (p.1 < m + k) && p.2.lt (m + k)) = true := by first | rfl | simp [LO.lt, LV.lts, LV.lt, lts_sv]) (hout : LV.lt (m + k) (.tup [l0, l1, l2]) = true := by first | rfl | simp [LV.lts, LV.lt, lts_sv]) {e : Exit} (he : e = .normal ∨ e = .ret := by first | exact .inr rfl | exact .inl rfl) :
    ∀ cx a w, Rel B N [] (st E L n) cx a w → FnPost P fn B m (.tup [l0, l1, l2]) Hi Ho k e a w :=
  FnPost.fin (res_TBB h f1 f2 h0 h1 b1 c1 h2 b2 c2) hA hmd hn hK hol hout he
theorem res_ATT {fn : Func} {t0 T0 o0 TB0 sz0 : Nat} {cs0 : List LV} {t1 : Nat} {l1 : LV} {t2 : Nat} {l2 : LV} (h : fn.results = #[.cell t0 T0, .tmp t1, .tmp t2]) (f0 : AggF P T0 sz0)
    (h0 : en E t0 = some (true, .ptr o0 0) := by rfl) (b0 : hp L o0 = some (.box TB0 cs0) := by rfl) (c0 : cs0.length = sz0 := by rfl) (h1 : en E t1 = some (true, l1) := by rfl) (h2 : en E t2 = some (true, l2) := by rfl) :
    ResIs P B N D E L n fn (.tup [.agg cs0, l1, l2]) := by
  intro cx a w hr
  obtain ⟨v0, ad0, p0, q0, r0⟩ := boxLoadA f0 hr h0 b0 c0
  refine ⟨.tuple #[v0, a.tmps.getD t1 undef, a.tmps.getD t2 undef], ?_, ?_⟩
  · simp only [Array.getD_eq_getD_getElem?] at p0
    simp [results, h, p0, asAddr, q0]
  · rw [V]
    refine ⟨[_, _, _], rfl, ?_⟩
    simp only [Vs]
    exact ⟨_, _, rfl, r0, _, _, rfl, (hr.env t1 _ h1).1 rfl, _, _, rfl, (hr.env t2 _ h2).1 rfl, rfl⟩
theorem ret_ATT {fn : Func} {t0 T0 o0 TB0 sz0 : Nat} {cs0 : List LV} {t1 : Nat} {l1 : LV} {t2 : Nat} {l2 : LV} (h : fn.results = #[.cell t0 T0, .tmp t1, .tmp t2]) (f0 : AggF P T0 sz0) {m k : Nat} {Hi Ho : List (Nat × LO)} (hA : ∀ o, B.cx.A o ↔ o < m) (hmd : B.md = blks B.cx (hp Hi))
    (h0 : en E t0 = some (true, .ptr o0 0) := by rfl) (b0 : hp L o0 = some (.box TB0 cs0) := by rfl) (c0 : cs0.length = sz0 := by rfl) (h1 : en E t1 = some (true, l1) := by rfl) (h2 : en E t2 = some (true, l2) := by rfl) (hn : m + k ≤ n := by first | omega | decide)
    (hK : KeepL (hp L) Ho := by repeat (first | exact trivial | refine ⟨rfl, ?_⟩))
    (hol : (Ho.all fun p => decide (p.1 < m + k) && p.2.lt (m + k)) = true := by first | rfl | simp [LO.lt, LV.lts, LV.lt, lts_sv]) (hout : LV.lt (m + k) (.tup [.agg cs0, l1, l2]) = true := by first | rfl | simp [LV.lts, LV.lt, lts_sv]) {e : Exit} (he : e = .normal ∨ e = .ret := by first | exact .inr rfl | exact .inl rfl) :
    ∀ cx a w, Rel B N [] (st E L n) cx a w → FnPost P fn B m (.tup [.agg cs0, l1, l2]) Hi Ho k e a w :=
  FnPost.fin (res_ATT h f0 h0 b0 c0 h1 h2) hA hmd hn hK hol hout he
theorem res_ATA {fn : Func} {t0 T0 o0 TB0 sz0 : Nat} {cs0 : List LV} {t1 : Nat} {l1 : LV} {t2 T2 o2 TB2 sz2 : Nat} {cs2 : List LV} (h : fn.results = #[.cell t0 T0, .tmp t1, .cell t2 T2]) (f0 : AggF P T0 sz0) (f2 : AggF P T2 sz2)
    (h0 : en E t0 = some (true, .ptr o0 0) := by rfl) (b0 : hp L o0 = some (.box TB0 cs0) := by rfl) (c0 : cs0.length = sz0 := by rfl) (h1 : en E t1 = some (true, l1) := by rfl) (h2 : en E t2 = some (true, .ptr o2 0) := by rfl) (b2 : hp L o2 = some (.box TB2 cs2) := by rfl) (c2 : cs2.length = sz2 := by rfl) :
    ResIs P B N D E L n fn (.tup [.agg cs0, l1, .agg cs2]) := by
  intro cx a w hr
  obtain ⟨v0, ad0, p0, q0, r0⟩ := boxLoadA f0 hr h0 b0 c0
  obtain ⟨v2, ad2, p2, q2, r2⟩ := boxLoadA f2 hr h2 b2 c2
  refine ⟨.tuple #[v0, a.tmps.getD t1 undef, v2], ?_, ?_⟩
  · simp only [Array.getD_eq_getD_getElem?] at p0 p2
    simp [results, h, p0, asAddr, q0, p2, asAddr, q2]
  · rw [V]
    refine ⟨[_, _, _], rfl, ?_⟩
    simp only [Vs]
    exact ⟨_, _, rfl, r0, _, _, rfl, (hr.env t1 _ h1).1 rfl, _, _, rfl, r2, rfl⟩
theorem ret_ATA {fn : Func} {t0 T0 o0 TB0 sz0 : Nat} {cs0 : List LV} {t1 : Nat} {l1 : LV} {t2 T2 o2 TB2 sz2 : Nat} {cs2 : List LV} (h : fn.results = #[.cell t0 T0, .tmp t1, .cell t2 T2]) (f0 : AggF P T0 sz0) (f2 : AggF P T2 sz2) {m k : Nat} {Hi Ho : List (Nat × LO)} (hA : ∀ o, B.cx.A o ↔ o < m) (hmd : B.md = blks B.cx (hp Hi))
    (h0 : en E t0 = some (true, .ptr o0 0) := by rfl) (b0 : hp L o0 = some (.box TB0 cs0) := by rfl) (c0 : cs0.length = sz0 := by rfl) (h1 : en E t1 = some (true, l1) := by rfl) (h2 : en E t2 = some (true, .ptr o2 0) := by rfl) (b2 : hp L o2 = some (.box TB2 cs2) := by rfl) (c2 : cs2.length = sz2 := by rfl) (hn : m + k ≤ n := by first | omega | decide)
    (hK : KeepL (hp L) Ho := by repeat (first | exact trivial | refine ⟨rfl, ?_⟩))
    (hol : (Ho.all fun p => decide (p.1 < m + k) && p.2.lt (m + k)) = true := by first | rfl | simp [LO.lt, LV.lts, LV.lt, lts_sv]) (hout : LV.lt (m + k) (.tup [.agg cs0, l1, .agg cs2]) = true := by first | rfl | simp [LV.lts, LV.lt, lts_sv]) {e : Exit} (he : e = .normal ∨ e = .ret := by first | exact .inr rfl | exact .inl rfl) :
    ∀ cx a w, Rel B N [] (st E L n) cx a w → FnPost P fn B m (.tup [.agg cs0, l1, .agg cs2]) Hi Ho k e a w :=
  FnPost.fin (res_ATA h f0 f2 h0 b0 c0 h1 h2 b2 c2) hA hmd hn hK hol hout he
theorem res_ATB {fn : Func} {t0 T0 o0 TB0 sz0 : Nat} {cs0 : List LV} {t1 : Nat} {l1 : LV} {t2 T2 o2 TB2 off2 : Nat} {cs2 : List LV} {l2 : LV} (h : fn.results = #[.cell t0 T0, .tmp t1, .cell t2 T2]) (f0 : AggF P T0 sz0) (f2 : OneF P T2)
    (h0 : en E t0 = some (true, .ptr o0 0) := by rfl) (b0 : hp L o0 = some (.box TB0 cs0) := by rfl) (c0 : cs0.length = sz0 := by rfl) (h1 : en E t1 = some (true, l1) := by rfl) (h2 : en E t2 = some (true, .ptr o2 off2) := by rfl) (b2 : hp L o2 = some (.box TB2 cs2) := by rfl) (c2 : cs2[off2]? = some l2 := by rfl) :
    ResIs P B N D E L n fn (.tup [.agg cs0, l1, l2]) := by
  intro cx a w hr
  obtain ⟨v0, ad0, p0, q0, r0⟩ := boxLoadA f0 hr h0 b0 c0
  obtain ⟨v2, ad2, p2, q2, r2⟩ := boxLoad1 f2 hr h2 b2 c2
  refine ⟨.tuple #[v0, a.tmps.getD t1 undef, v2], ?_, ?_⟩
  · simp only [Array.getD_eq_getD_getElem?] at p0 p2
    simp [results, h, p0, asAddr, q0, p2, asAddr, q2]
  · rw [V]
    refine ⟨[_, _, _], rfl, ?_⟩
    simp only [Vs]
    exact ⟨_, _, rfl, r0, _, _, rfl, (hr.env t1 _ h1).1 rfl, _, _, rfl, r2, rfl⟩
theorem ret_ATB {fn : Func} {t0 T0 o0 TB0 sz0 : Nat} {cs0 : List LV} {t1 : Nat} {l1 : LV} {t2 T2 o2 TB2 off2 : Nat} {cs2 : List LV} {l2 : LV} (h : fn.results = #[.cell t0 T0, .tmp t1, .cell t2 T2]) (f0 : AggF P T0 sz0) (f2 : OneF P T2) {m k : Nat} {Hi Ho : List (Nat × LO)} (hA : ∀ o, B.cx.A o ↔ o < m) (hmd : B.md = blks B.cx (hp Hi))
    (h0 : en E t0 = some (true, .ptr o0 0) := by rfl) (b0 : hp L o0 = some (.box TB0 cs0) := by rfl) (c0 : cs0.length = sz0 := by rfl) (h1 : en E t1 = some (true, l1) := by rfl) (h2 : en E t2 = some (true, .ptr o2 off2) := by rfl) (b2 : hp L o2 = some (.box TB2 cs2) := by rfl) (c2 : cs2[off2]? = some l2 := by rfl) (hn : m + k ≤ n := by first | omega | decide)
    (hK : KeepL (hp L) Ho := by repeat (first | exact trivial | refine ⟨rfl, ?_⟩))
    (hol : (Ho.all fun p => decide (p.1 < m + k) && p.2.lt (m + k)) = true := by first | rfl | simp [LO.lt, LV.lts, LV.lt, lts_sv]) (hout : LV.lt (m + k) (.tup [.agg cs0, l1, l2]) = true := by first | rfl | simp [LV.lts, LV.lt, lts_sv]) {e : Exit} (he : e = .normal ∨ e = .ret := by first | exact .inr rfl | exact .inl rfl) :
    ∀ cx a w, Rel B N [] (st E L n) cx a w → FnPost P fn B m (.tup [.agg cs0, l1, l2]) Hi Ho k e a w :=
  FnPost.fin (res_ATB h f0 f2 h0 b0 c0 h1 h2 b2 c2) hA hmd hn hK hol hout he
theorem res_AAT {fn : Func} {t0 T0 o0 TB0 sz0 : Nat} {cs0 : List LV} {t1 T1 o1 TB1 sz1 : Nat} {cs1 : List LV} {t2 : Nat} {l2 : LV} (h : fn.results = #[.cell t0 T0, .cell t1 T1, .tmp t2]) (f0 : AggF P T0 sz0) (f1 : AggF P T1 sz1)
    (h0 : en E t0 = some (true, .ptr o0 0) := by rfl) (b0 : hp L o0 = some (.box TB0 cs0) := by rfl) (c0 : cs0.length = sz0 := by rfl) (h1 : en E t1 = some (true, .ptr o1 0) := by rfl) (b1 : hp L o1 = some (.box TB1 cs1) := by rfl) (c1 : cs1.length = sz1 := by rfl) (h2 : en E t2 = some (true, l2) := by rfl) :
    ResIs P B N D E L n fn (.tup [.agg cs0, .agg cs1, l2]) := by
  intro cx a w hr
  obtain ⟨v0, ad0, p0, q0, r0⟩ := boxLoadA f0 hr h0 b0 c0
  obtain ⟨v1, ad1, p1, q1, r1⟩ := boxLoadA f1 hr h1 b1 c1
  refine ⟨.tuple #[v0, v1, a.tmps.getD t2 undef], ?_, ?_⟩
  · simp only [Array.getD_eq_getD_getElem?] at p0 p1
    simp [results, h, p0, asAddr, q0, p1, asAddr, q1]
  · rw [V]
    refine ⟨[_, _, _], rfl, ?_⟩
    simp only [Vs]
    exact ⟨_, _, rfl, r0, _, _, rfl, r1, _, _, rfl, (hr.env t2 _ h2).1 rfl, rfl⟩
theorem ret_AAT {fn : Func} {t0 T0 o0 TB0 sz0 : Nat} {cs0 : List LV} {t1 T1 o1 TB1 sz1 : Nat} {cs1 : List LV} {t2 : Nat} {l2 : LV} (h : fn.results = #[.cell t0 T0, .cell t1 T1, .tmp t2]) (f0 : AggF P T0 sz0) (f1 : AggF P T1 sz1) {m k : Nat} {Hi Ho : List (Nat × LO)} (hA : ∀ o, B.cx.A o ↔ o < m) (hmd : B.md = blks B.cx (hp Hi))
    (h0 : en E t0 = some (true, .ptr o0 0) := by rfl) (b0 : hp L o0 = some (.box TB0 cs0) := by rfl) (c0 : cs0.length = sz0 := by rfl) (h1 : en E t1 = some (true, .ptr o1 0) := by rfl) (b1 : hp L o1 = some (.box TB1 cs1) := by rfl) (c1 : cs1.length = sz1 := by rfl) (h2 : en E t2 = some (true, l2) := by rfl) (hn : m + k ≤ n := by first | omega | decide)
    (hK : KeepL (hp L) Ho := by repeat (first | exact trivial | refine ⟨rfl, ?_⟩))
    (hol : (Ho.all fun p => decide (p.1 < m + k) && p.2.lt (m + k)) = true := by first | rfl | simp [LO.lt, LV.lts, LV.lt, lts_sv]) (hout : LV.lt (m + k) (.tup [.agg cs0, .agg cs1, l2]) = true := by first | rfl | simp [LV.lts, LV.lt, lts_sv]) {e : Exit} (he : e = .normal ∨ e = .ret := by first | exact .inr rfl | exact .inl rfl) :
    ∀ cx a w, Rel B N [] (st E L n) cx a w → FnPost P fn B m (.tup [.agg cs0, .agg cs1, l2]) Hi Ho k e a w :=
  FnPost.fin (res_AAT h f0 f1 h0 b0 c0 h1 b1 c1 h2) hA hmd hn hK hol hout he
theorem res_ABT {fn : Func} {t0 T0 o0 TB0 sz0 : Nat} {cs0 : List LV} {t1 T1 o1 TB1 off1 : Nat} {cs1 : List LV} {l1 : LV} {t2 : Nat} {l2 : LV} (h : fn.results = #[.cell t0 T0, .cell t1 T1, .tmp t2]) (f0 : AggF P T0 sz0) (f1 : OneF P T1)
    (h0 : en E t0 = some (true, .ptr o0 0) := by rfl) (b0 : hp L o0 = some (.box TB0 cs0) := by rfl) (c0 : cs0.length = sz0 := by rfl) (h1 : en E t1 = some (true, .ptr o1 off1) := by rfl) (b1 : hp L o1 = some (.box TB1 cs1) := by rfl) (c1 : cs1[off1]? = some l1 := by rfl) (h2 : en E t2 = some (true, l2) := by rfl) :
    ResIs P B N D E L n fn (.tup [.agg cs0, l1, l2]) := by
  intro cx a w hr
  obtain ⟨v0, ad0, p0, q0, r0⟩ := boxLoadA f0 hr h0 b0 c0
  obtain ⟨v1, ad1, p1, q1, r1⟩ := boxLoad1 f1 hr h1 b1 c1
  refine ⟨.tuple #[v0, v1, a.tmps.getD t2 undef], ?_, ?_⟩
  · simp only [Array.getD_eq_getD_getElem?] at p0 p1
    simp [results, h, p0, asAddr, q0, p1, asAddr, q1]
  · rw [V]
    refine ⟨[_, _, _], rfl, ?_⟩
    simp only [Vs]
    exact ⟨_, _, rfl, r0, _, _, rfl, r1, _, _, rfl, (hr.env t2 _ h2).1 rfl, rfl⟩
theorem ret_ABT {fn : Func} {t0 T0 o0 TB0 sz0 : Nat} {cs0 : List LV} {t1 T1 o1 TB1 off1 : Nat} {cs1 : List LV} {l1 : LV} {t2 : Nat} {l2 : LV} (h : fn.results = #[.cell t0 T0, .cell t1 T1, .tmp t2]) (f0 : AggF P T0 sz0) (f1 : OneF P T1) {m k : Nat} {Hi Ho : List (Nat × LO)} (hA : ∀ o, B.cx.A o ↔ o < m) (hmd : B.md = blks B.cx (hp Hi))
    (h0 : en E t0 = some (true, .ptr o0 0) := by rfl) (b0 : hp L o0 = some (.box TB0 cs0) := by rfl) (c0 : cs0.length = sz0 := by rfl) (h1 : en E t1 = some (true, .ptr o1 off1) := by rfl) (b1 : hp L o1 = some (.box TB1 cs1) := by rfl) (c1 : cs1[off1]? = some l1 := by rfl) (h2 : en E t2 = some (true, l2) := by rfl) (hn : m + k ≤ n := by first | omega | decide)
    (hK : KeepL (hp L) Ho := by repeat (first | exact trivial | refine ⟨rfl, ?_⟩))
    (hol : (Ho.all fun p => decide (p.1 < m + k) && p.2.lt (m + k)) = true := by first | rfl | simp [LO.lt, LV.lts, LV.lt, lts_sv]) (hout : LV.lt (m + k) (.tup [.agg cs0, l1, l2]) = true := by first | rfl | simp [LV.lts, LV.lt, lts_sv]) {e : Exit} (he : e = .normal ∨ e = .ret := by first | exact .inr rfl | exact .inl rfl) :
    ∀ cx a w, Rel B N [] (st E L n) cx a w → FnPost P fn B m (.tup [.agg cs0, l1, l2]) Hi Ho k e a w :=
  FnPost.fin (res_ABT h f0 f1 h0 b0 c0 h1 b1 c1 h2) hA hmd hn hK hol hout he
theorem res_BTT {fn : Func} {t0 T0 o0 TB0 off0 : Nat} {cs0 : List LV} {l0 : LV} {t1 : Nat} {l1 : LV} {t2 : Nat} {l2 : LV} (h : fn.results = #[.cell t0 T0, .tmp t1, .tmp t2]) (f0 : OneF P T0)
    (h0 : en E t0 = some (true, .ptr o0 off0) := by rfl) (b0 : hp L o0 = some (.box TB0 cs0) := by rfl) (c0 : cs0[off0]? = some l0 := by rfl) (h1 : en E t1 = some (true, l1) := by rfl) (h2 : en E t2 = some (true, l2) := by rfl) :
    ResIs P B N D E L n fn (.tup [l0, l1, l2]) := by
  intro cx a w hr
  obtain ⟨v0, ad0, p0, q0, r0⟩ := boxLoad1 f0 hr h0 b0 c0
  refine ⟨.tuple #[v0, a.tmps.getD t1 undef, a.tmps.getD t2 undef], ?_, ?_⟩
  · simp only [Array.getD_eq_getD_getElem?] at p0
    simp [results, h, p0, asAddr, q0]
  · rw [V]
    refine ⟨[_, _, _], rfl, ?_⟩
    simp only [Vs]
    exact ⟨_, _, rfl, r0, _, _, rfl, (hr.env t1 _ h1).1 rfl, _, _, rfl, (hr.env t2 _ h2).1 rfl, rfl⟩
theorem ret_BTT {fn : Func} {t0 T0 o0 TB0 off0 : Nat} {cs0 : List LV} {l0 : LV} {t1 : Nat} {l1 : LV} {t2 : Nat} {l2 : LV} (h : fn.results = #[.cell t0 T0, .tmp t1, .tmp t2]) (f0 : OneF P T0) {m k : Nat} {Hi Ho : List (Nat × LO)} (hA : ∀ o, B.cx.A o ↔ o < m) (hmd : B.md = blks B.cx (hp Hi))
    (h0 : en E t0 = some (true, .ptr o0 off0) := by rfl) (b0 : hp L o0 = some (.box TB0 cs0) := by rfl) (c0 : cs0[off0]? = some l0 := by rfl) (h1 : en E t1 = some (true, l1) := by rfl) (h2 : en E t2 = some (true, l2) := by rfl) (hn : m + k ≤ n := by first | omega | decide)
    (hK : KeepL (hp L) Ho := by repeat (first | exact trivial | refine ⟨rfl, ?_⟩))
    (hol : (Ho.all fun p => decide (p.1 < m + k) && p.2.lt (m + k)) = true := by first | rfl | simp [LO.lt, LV.lts, LV.lt, lts_sv]) (hout : LV.lt (m + k) (.tup [l0, l1, l2]) = true := by first | rfl | simp [LV.lts, LV.lt, lts_sv]) {e : Exit} (he : e = .normal ∨ e = .ret := by first | exact .inr rfl | exact .inl rfl) :
    ∀ cx a w, Rel B N [] (st E L n) cx a w → FnPost P fn B m (.tup [l0, l1, l2]) Hi Ho k e a w :=
  FnPost.fin (res_BTT h f0 h0 b0 c0 h1 h2) hA hmd hn hK hol hout he
theorem res_BTA {fn : Func} {t0 T0 o0 TB0 off0 : Nat} {cs0 : List LV} {l0 : LV} {t1 : Nat} {l1 : LV} {t2 T2 o2 TB2 sz2 : Nat} {cs2 : List LV} (h : fn.results = #[.cell t0 T0, .tmp t1, .cell t2 T2]) (f0 : OneF P T0) (f2 : AggF P T2 sz2)
    (h0 : en E t0 = some (true, .ptr o0 off0) := by rfl) (b0 : hp L o0 = some (.box TB0 cs0) := by rfl) (c0 : cs0[off0]? = some l0 := by rfl) (h1 : en E t1 = some (true, l1) := by rfl) (h2 : en E t2 = some (true, .ptr o2 0) := by rfl) (b2 : hp L o2 = some (.box TB2 cs2) := by rfl) (c2 : cs2.length = sz2 := by rfl) :
    ResIs P B N D E L n fn (.tup [l0, l1, .agg cs2]) := by
  intro cx a w hr
  obtain ⟨v0, ad0, p0, q0, r0⟩ := boxLoad1 f0 hr h0 b0 c0
  obtain ⟨v2, ad2, p2, q2, r2⟩ := boxLoadA f2 hr h2 b2 c2
  refine ⟨.tuple #[v0, a.tmps.getD t1 undef, v2], ?_, ?_⟩
  · simp only [Array.getD_eq_getD_getElem?] at p0 p2
    simp [results, h, p0, asAddr, q0, p2, asAddr, q2]
  · rw [V]
    refine ⟨[_, _, _], rfl, ?_⟩
    simp only [Vs]
    exact ⟨_, _, rfl, r0, _, _, rfl, (hr.env t1 _ h1).1 rfl, _, _, rfl, r2, rfl⟩
theorem ret_BTA {fn : Func} {t0 T0 o0 TB0 off0 : Nat} {cs0 : List LV} {l0 : LV} {t1 : Nat} {l1 : LV} {t2 T2 o2 TB2 sz2 : Nat} {cs2 : List LV} (h : fn.results = #[.cell t0 T0, .tmp t1, .cell t2 T2]) (f0 : OneF P T0) (f2 : AggF P T2 sz2) {m k : Nat} {Hi Ho : List (Nat × LO)} (hA : ∀ o, B.cx.A o ↔ o < m) (hmd : B.md = blks B.cx (hp Hi))
    (h0 : en E t0 = some (true, .ptr o0 off0) := by rfl) (b0 : hp L o0 = some (.box TB0 cs0) := by rfl) (c0 : cs0[off0]? = some l0 := by rfl) (h1 : en E t1 = some (true, l1) := by rfl) (h2 : en E t2 = some (true, .ptr o2 0) := by rfl) (b2 : hp L o2 = some (.box TB2 cs2) := by rfl) (c2 : cs2.length = sz2 := by rfl) (hn : m + k ≤ n := by first | omega | decide)
    (hK : KeepL (hp L) Ho := by repeat (first | exact trivial | refine ⟨rfl, ?_⟩))
    (hol : (Ho.all fun p => decide (p.1 < m + k) && p.2.lt (m + k)) = true := by first | rfl | simp [LO.lt, LV.lts, LV.lt, lts_sv]) (hout : LV.lt (m + k) (.tup [l0, l1, .agg cs2]) = true := by first | rfl | simp [LV.lts, LV.lt, lts_sv]) {e : Exit} (he : e = .normal ∨ e = .ret := by first | exact .inr rfl | exact .inl rfl) :
    ∀ cx a w, Rel B N [] (st E L n) cx a w → FnPost P fn B m (.tup [l0, l1, .agg cs2]) Hi Ho k e a w :=
  FnPost.fin (res_BTA h f0 f2 h0 b0 c0 h1 h2 b2 c2) hA hmd hn hK hol hout he
theorem res_BTB {fn : Func} {t0 T0 o0 TB0 off0 : Nat} {cs0 : List LV} {l0 : LV} {t1 : Nat} {l1 : LV} {t2 T2 o2 TB2 off2 : Nat} {cs2 : List LV} {l2 : LV} (h : fn.results = #[.cell t0 T0, .tmp t1, .cell t2 T2]) (f0 : OneF P T0) (f2 : OneF P T2)
    (h0 : en E t0 = some (true, .ptr o0 off0) := by rfl) (b0 : hp L o0 = some (.box TB0 cs0) := by rfl) (c0 : cs0[off0]? = some l0 := by rfl) (h1 : en E t1 = some (true, l1) := by rfl) (h2 : en E t2 = some (true, .ptr o2 off2) := by rfl) (b2 : hp L o2 = some (.box TB2 cs2) := by rfl) (c2 : cs2[off2]? = some l2 := by rfl) :
    ResIs P B N D E L n fn (.tup [l0, l1, l2]) := by
  intro cx a w hr
  obtain ⟨v0, ad0, p0, q0, r0⟩ := boxLoad1 f0 hr h0 b0 c0
  obtain ⟨v2, ad2, p2, q2, r2⟩ := boxLoad1 f2 hr h2 b2 c2
  refine ⟨.tuple #[v0, a.tmps.getD t1 undef, v2], ?_, ?_⟩
  · simp only [Array.getD_eq_getD_getElem?] at p0 p2
    simp [results, h, p0, asAddr, q0, p2, asAddr, q2]
  · rw [V]
    refine ⟨[_, _, _], rfl, ?_⟩
    simp only [Vs]
    exact ⟨_, _, rfl, r0, _, _, rfl, (hr.env t1 _ h1).1 rfl, _, _, rfl, r2, rfl⟩
theorem ret_BTB {fn : Func} {t0 T0 o0 TB0 off0 : Nat} {cs0 : List LV} {l0 : LV} {t1 : Nat} {l1 : LV} {t2 T2 o2 TB2 off2 : Nat} {cs2 : List LV} {l2 : LV} (h : fn.results = #[.cell t0 T0, .tmp t1, .cell t2 T2]) (f0 : OneF P T0) (f2 : OneF P T2) {m k : Nat} {Hi Ho : List (Nat × LO)} (hA : ∀ o, B.cx.A o ↔ o < m) (hmd : B.md = blks B.cx (hp Hi))
    (h0 : en E t0 = some (true, .ptr o0 off0) := by rfl) (b0 : hp L o0 = some (.box TB0 cs0) := by rfl) (c0 : cs0[off0]? = some l0 := by rfl) (h1 : en E t1 = some (true, l1) := by rfl) (h2 : en E t2 = some (true, .ptr o2 off2) := by rfl) (b2 : hp L o2 = some (.box TB2 cs2) := by rfl) (c2 : cs2[off2]? = some l2 := by rfl) (hn : m + k ≤ n := by first | omega | decide)
    (hK : KeepL (hp L) Ho := by repeat (first | exact trivial | refine ⟨rfl, ?_⟩))
    (hol : (Ho.all fun p => decide (p.1 < m + k) && p.2.lt (m + k)) = true := by first | rfl | simp [LO.lt, LV.lts, LV.lt, lts_sv]) (hout : LV.lt (m + k) (.tup [l0, l1, l2]) = true := by first | rfl | simp [LV.lts, LV.lt, lts_sv]) {e : Exit} (he : e = .normal ∨ e = .ret := by first | exact .inr rfl | exact .inl rfl) :
    ∀ cx a w, Rel B N [] (st E L n) cx a w → FnPost P fn B m (.tup [l0, l1, l2]) Hi Ho k e a w :=
  FnPost.fin (res_BTB h f0 f2 h0 b0 c0 h1 h2 b2 c2) hA hmd hn hK hol hout he
theorem res_BAT {fn : Func} {t0 T0 o0 TB0 off0 : Nat} {cs0 : List LV} {l0 : LV} {t1 T1 o1 TB1 sz1 : Nat} {cs1 : List LV} {t2 : Nat} {l2 : LV} (h : fn.results = #[.cell t0 T0, .cell t1 T1, .tmp t2]) (f0 : OneF P T0) (f1 : AggF P T1 sz1)
    (h0 : en E t0 = some (true, .ptr o0 off0) := by rfl) (b0 : hp L o0 = some (.box TB0 cs0) := by rfl) (c0 : cs0[off0]? = some l0 := by rfl) (h1 : en E t1 = some (true, .ptr o1 0) := by rfl) (b1 : hp L o1 = some (.box TB1 cs1) := by rfl) (c1 : cs1.length = sz1 := by rfl) (h2 : en E t2 = some (true, l2) := by rfl) :
    ResIs P B N D E L n fn (.tup [l0, .agg cs1, l2]) := by
  intro cx a w hr
  obtain ⟨v0, ad0, p0, q0, r0⟩ := boxLoad1 f0 hr h0 b0 c0
  obtain ⟨v1, ad1, p1, q1, r1⟩ := boxLoadA f1 hr h1 b1 c1
  refine ⟨.tuple #[v0, v1, a.tmps.getD t2 undef], ?_, ?_⟩
  · simp only [Array.getD_eq_getD_getElem?] at p0 p1
    simp [results, h, p0, asAddr, q0, p1, asAddr, q1]
  · rw [V]
    refine ⟨[_, _, _], rfl, ?_⟩
    simp only [Vs]
    exact ⟨_, _, rfl, r0, _, _, rfl, r1, _, _, rfl, (hr.env t2 _ h2).1 rfl, rfl⟩
theorem ret_BAT {fn : Func} {t0 T0 o0 TB0 off0 : Nat} {cs0 : List LV} {l0 : LV} {t1 T1 o1 TB1 sz1 : Nat} {cs1 : List LV} {t2 : Nat} {l2 : LV} (h : fn.results = #[.cell t0 T0, .cell t1 T1, .tmp t2]) (f0 : OneF P T0) (f1 : AggF P T1 sz1) {m k : Nat} {Hi Ho : List (Nat × LO)} (hA : ∀ o, B.cx.A o ↔ o < m) (hmd : B.md = blks B.cx (hp Hi))
    (h0 : en E t0 = some (true, .ptr o0 off0) := by rfl) (b0 : hp L o0 = some (.box TB0 cs0) := by rfl) (c0 : cs0[off0]? = some l0 := by rfl) (h1 : en E t1 = some (true, .ptr o1 0) := by rfl) (b1 : hp L o1 = some (.box TB1 cs1) := by rfl) (c1 : cs1.length = sz1 := by rfl) (h2 : en E t2 = some (true, l2) := by rfl) (hn : m + k ≤ n := by first | omega | decide)
    (hK : KeepL (hp L) Ho := by repeat (first | exact trivial | refine ⟨rfl, ?_⟩))
    (hol : (Ho.all fun p => decide (p.1 < m + k) && p.2.lt (m + k)) = true := by first | rfl | simp [LO.lt, LV.lts, LV.lt, lts_sv]) (hout : LV.lt (m + k) (.tup [l0, .agg cs1, l2]) = true := by first | rfl | simp [LV.lts, LV.lt, lts_sv]) {e : Exit} (he : e = .normal ∨ e = .ret := by first | exact .inr rfl | exact .inl rfl) :
    ∀ cx a w, Rel B N [] (st E L n) cx a w → FnPost P fn B m (.tup [l0, .agg cs1, l2]) Hi Ho k e a w :=
  FnPost.fin (res_BAT h f0 f1 h0 b0 c0 h1 b1 c1 h2) hA hmd hn hK hol hout he
theorem res_BBT {fn : Func} {t0 T0 o0 TB0 off0 : Nat} {cs0 : List LV} {l0 : LV} {t1 T1 o1 TB1 off1 : Nat} {cs1 : List LV} {l1 : LV} {t2 : Nat} {l2 : LV} (h : fn.results = #[.cell t0 T0, .cell t1 T1, .tmp t2]) (f0 : OneF P T0) (f1 : OneF P T1)
    (h0 : en E t0 = some (true, .ptr o0 off0) := by rfl) (b0 : hp L o0 = some (.box TB0 cs0) := by rfl) (c0 : cs0[off0]? = some l0 := by rfl) (h1 : en E t1 = some (true, .ptr o1 off1) := by rfl) (b1 : hp L o1 = some (.box TB1 cs1) := by rfl) (c1 : cs1[off1]? = some l1 := by rfl) (h2 : en E t2 = some (true, l2) := by rfl) :
    ResIs P B N D E L n fn (.tup [l0, l1, l2]) := by
  intro cx a w hr
  obtain ⟨v0, ad0, p0, q0, r0⟩ := boxLoad1 f0 hr h0 b0 c0
  obtain ⟨v1, ad1, p1, q1, r1⟩ := boxLoad1 f1 hr h1 b1 c1
  refine ⟨.tuple #[v0, v1, a.tmps.getD t2 undef], ?_, ?_⟩
  · simp only [Array.getD_eq_getD_getElem?] at p0 p1
    simp [results, h, p0, asAddr, q0, p1, asAddr, q1]
  · rw [V]
    refine ⟨[_, _, _], rfl, ?_⟩
    simp only [Vs]
    exact ⟨_, _, rfl, r0, _, _, rfl, r1, _, _, rfl, (hr.env t2 _ h2).1 rfl, rfl⟩
theorem ret_BBT {fn : Func} {t0 T0 o0 TB0 off0 : Nat} {cs0 : List LV} {l0 : LV} {t1 T1 o1 TB1 off1 : Nat} {cs1 : List LV} {l1 : LV} {t2 : Nat} {l2 : LV} (h : fn.results = #[.cell t0 T0, .cell t1 T1, .tmp t2]) (f0 : OneF P T0) (f1 : OneF P T1) {m k : Nat} {Hi Ho : List (Nat × LO)} (hA : ∀ o, B.cx.A o ↔ o < m) (hmd : B.md = blks B.cx (hp Hi))
    (h0 : en E t0 = some (true, .ptr o0 off0) := by rfl) (b0 : hp L o0 = some (.box TB0 cs0) := by rfl) (c0 : cs0[off0]? = some l0 := by rfl) (h1 : en E t1 = some (true, .ptr o1 off1) := by rfl) (b1 : hp L o1 = some (.box TB1 cs1) := by rfl) (c1 : cs1[off1]? = some l1 := by rfl) (h2 : en E t2 = some (true, l2) := by rfl) (hn : m + k ≤ n := by first | omega | decide)
    (hK : KeepL (hp L) Ho := by repeat (first | exact trivial | refine ⟨rfl, ?_⟩))
    (hol : (Ho.all fun p => decide (p.1 < m + k) && p.2.lt (m + k)) = true := by first | rfl | simp [LO.lt, LV.lts, LV.lt, lts_sv]) (hout : LV.lt (m + k) (.tup [l0, l1, l2]) = true := by first | rfl | simp [LV.lts, LV.lt, lts_sv]) {e : Exit} (he : e = .normal ∨ e = .ret := by first | exact .inr rfl | exact .inl rfl) :
    ∀ cx a w, Rel B N [] (st E L n) cx a w → FnPost P fn B m (.tup [l0, l1, l2]) Hi Ho k e a w :=
  FnPost.fin (res_BBT h f0 f1 h0 b0 c0 h1 b1 c1 h2) hA hmd hn hK hol hout he
theorem res_TTTT {fn : Func} {t0 : Nat} {l0 : LV} {t1 : Nat} {l1 : LV} {t2 : Nat} {l2 : LV} {t3 : Nat} {l3 : LV} (h : fn.results = #[.tmp t0, .tmp t1, .tmp t2, .tmp t3]) 
    (h0 : en E t0 = some (true, l0) := by rfl) (h1 : en E t1 = some (true, l1) := by rfl) (h2 : en E t2 = some (true, l2) := by rfl) (h3 : en E t3 = some (true, l3) := by rfl) :
    ResIs P B N D E L n fn (.tup [l0, l1, l2, l3]) := by
  intro cx a w hr
  refine ⟨.tuple #[a.tmps.getD t0 undef, a.tmps.getD t1 undef, a.tmps.getD t2 undef, a.tmps.getD t3 undef], ?_, ?_⟩
  · simp [results, h]
  · simp only [V, Vs]
    exact ⟨[_, _, _, _], rfl, _, _, rfl, (hr.env t0 _ h0).1 rfl, _, _, rfl, (hr.env t1 _ h1).1 rfl, _, _, rfl, (hr.env t2 _ h2).1 rfl, _, _, rfl, (hr.env t3 _ h3).1 rfl, rfl⟩
theorem ret_TTTT {fn : Func} {t0 : Nat} {l0 : LV} {t1 : Nat} {l1 : LV} {t2 : Nat} {l2 : LV} {t3 : Nat} {l3 : LV} (h : fn.results = #[.tmp t0, .tmp t1, .tmp t2, .tmp t3])  {m k : Nat} {Hi Ho : List (Nat × LO)} (hA : ∀ o, B.cx.A o ↔ o < m) (hmd : B.md = blks B.cx (hp Hi))
    (h0 : en E t0 = some (true, l0) := by rfl) (h1 : en E t1 = some (true, l1) := by rfl) (h2 : en E t2 = some (true, l2) := by rfl) (h3 : en E t3 = some (true, l3) := by rfl) (hn : m + k ≤ n := by first | omega | decide)
    (hK : KeepL (hp L) Ho := by repeat (first | exact trivial | refine ⟨rfl, ?_⟩))
    (hol : (Ho.all fun p => decide (p.1 < m + k) && p.2.lt (m + k)) = true := by first | rfl | simp [LO.lt, LV.lts, LV.lt, lts_sv]) (hout : LV.lt (m + k) (.tup [l0, l1, l2, l3]) = true := by first | rfl | simp [LV.lts, LV.lt, lts_sv]) {e : Exit} (he : e = .normal ∨ e = .ret := by first | exact .inr rfl | exact .inl rfl) :
    ∀ cx a w, Rel B N [] (st E L n) cx a w → FnPost P fn B m (.tup [l0, l1, l2, l3]) Hi Ho k e a w :=
  FnPost.fin (res_TTTT h h0 h1 h2 h3) hA hmd hn hK hol hout he
theorem ret_0 {fn : Func} (h : fn.results = #[]) {m k : Nat} {Hi Ho : List (Nat × LO)} (hA : ∀ o, B.cx.A o ↔ o < m) (hmd : B.md = blks B.cx (hp Hi)) (hn : m + k ≤ n := by first | omega | decide)
    (hK : KeepL (hp L) Ho := by repeat (first | exact trivial | refine ⟨rfl, ?_⟩))
    (hol : (Ho.all fun p => decide (p.1 < m + k) && p.2.lt (m + k)) = true := by first | rfl | simp [LO.lt, LV.lts, LV.lt]) {e : Exit} (he : e = .normal ∨ e = .ret := by first | exact .inr rfl | exact .inl rfl) :
    ∀ cx a w, Rel B N [] (st E L n) cx a w → FnPost P fn B m (.tup []) Hi Ho k e a w := by
  intro cx a w hr
  refine FnPost.of2 hA hmd hn (fun o x hx => hK.get hx) hol rfl he hr (v := .tuple #[]) ?_ ?_
  · simp [results, h]
  · simp only [V, Vs]; exact ⟨[], rfl, rfl⟩
end

end Go.Proofs.Ytmiamhegohlglaa
