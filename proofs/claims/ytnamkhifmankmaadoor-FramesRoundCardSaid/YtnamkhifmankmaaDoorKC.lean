/- The ground of the walks: a program logic over told states (no condition). -/
import Derived.Test.YtnamkhifmankmaaDoorKB
import Derived.Laws.StructEq
set_option linter.unusedSimpArgs false
set_option linter.unusedVariables false
/- The ends of functions, by the shape of their results. -/
namespace Go.Proofs.YtnamkhifmankmaaDoor

section
variable {P : Program} {N : Nat} {B : Base} {E : List (Nat × Ent)} {L : List (Nat × LO)} {n : Nat} {D : List Nat}

theorem boxLoad1 {T TB : Nat} {o off : Nat} {cs : List LV} {c : LV} (hF : OneF P T) {cx : Cx} {a : Act} {w : World} (hr : Rel B N D (st E L n) cx a w) {t : Nat}
    (ht : en E t = some (true, .ptr o off)) (hb : hp L o = some (.box TB cs)) (hc : cs[off]? = some c) :
    ∃ v ad, a.tmps.getD t undef = .pointer (some ad) ∧ (loadVar T ad).run P w = .ok v w ∧ V cx w c v := by
  have hv := (hr.env t _ ht).1 rfl
  simp only [V] at hv
  obtain ⟨hA, b, hbk, he⟩ := hv
  obtain ⟨b', vs, k1, k2, k3⟩ := (hr.heap.ok o _ hb).2
  rw [k1] at hbk
  simp only [bk, Option.some.injEq] at hbk
  subst hbk
  obtain ⟨v, hv1, hv2⟩ := k3.get hc
  refine ⟨v, _, he, ?_, hv2⟩
  have hcell : w.cell? ⟨b', off, none⟩ = some v := by simp [World.cell?, k2, hv1]
  simp [loadVar, hF.1 w, hcell]

/-- what a function's results are, in a state -/
def ResIs (P : Program) (B : Base) (N : Nat) (D : List Nat) (E : List (Nat × Ent)) (L : List (Nat × LO)) (n : Nat) (fn : Func) (l : LV) : Prop :=
  ∀ cx a w, Rel B N D (st E L n) cx a w → ∃ v, (results fn a.tmps).run P w = .ok v w ∧ V cx w l v

theorem FnPost.fin {fn : Func} {l : LV} (hres : ResIs P B N [] E L n fn l) {m k : Nat} {Hi Ho : List (Nat × LO)} (hA : ∀ o, B.cx.A o ↔ o < m) (hmd : B.md = blks B.cx (hp Hi)) (hn : m + k ≤ n) (hK : KeepL (hp L) Ho)
    (hol : (Ho.all fun p => decide (p.1 < m + k) && p.2.lt (m + k)) = true) (hout : l.lt (m + k) = true) {e : Exit} (he : e = .normal ∨ e = .ret) : ∀ cx a w, Rel B N [] (st E L n) cx a w → FnPost P fn B m l Hi Ho k e a w := by
  intro cx a w hr
  obtain ⟨v, h1, h2⟩ := hres cx a w hr
  exact FnPost.of2 hA hmd hn (fun o x hx => hK.get hx) hol hout he hr h1 h2

/-- the end of a function; ids: what its names are here -/
theorem FnPost.finI (ids : List Nat) {fn : Func} {l out : LV} (hres : ResIs P B N [] E L n fn l) {m k : Nat} {Hi Ho : List (Nat × LO)} (hA : ∀ o, B.cx.A o ↔ o < m) (hmd : B.md = blks B.cx (hp Hi))
    (hK : KeepL (hp L) (renL (fun j => ids.getD j 0) Ho) := by repeat (first | exact trivial | refine ⟨rfl, ?_⟩)) (hl : l = out.mapI (fun j => ids.getD j 0) := by rfl) (hb : ids.take m = List.range m := by rfl) (hlen : ids.length = m + k := by rfl) (hnd : ids.Nodup := by decide)
    (hol : (Ho.all fun p => decide (p.1 < m + k) && p.2.lt (m + k)) = true := by first | rfl | simp [LO.lt, LV.lts, LV.lt, lts_sv]) (hout : out.lt (m + k) = true := by first | rfl | simp [LV.lts, LV.lt, lts_sv]) {e : Exit} (he : e = .normal ∨ e = .ret := by first | exact .inr rfl | exact .inl rfl) :
    ∀ cx a w, Rel B N [] (st E L n) cx a w → FnPost P fn B m out Hi Ho k e a w := by
  intro cx a w hr
  obtain ⟨v, hv, hvo⟩ := hres cx a w hr
  refine ⟨he, ?_⟩
  rw [show a.defers = [] from hr.df]
  let s : Nat → Nat := fun j => ids.getD j 0
  let c1 : Cx := ⟨cx.pr, fun o => o < m + k, fun o => cx.loc (s o), fun o => cx.inn (s o)⟩
  have h1 : ∀ o, o < m + k → c1.A o ∧ c1.loc o = cx.loc (s o) := fun o ho => ⟨ho, rfl⟩
  have hs0 : ∀ o, o < m → s o = o := by
    intro o ho
    have h2 : (ids.take m)[o]? = some o := by rw [hb]; simp [ho]
    rw [List.getElem?_take, if_pos ho] at h2
    simp [s, List.getD_eq_getElem?_getD, h2]
  have hinj : ∀ i j, i < m + k → j < m + k → s i = s j → i = j := by
    intro i j hi hj hij
    rw [← hlen] at hi hj
    simp only [s, List.getD_eq_getElem?_getD, List.getElem?_eq_getElem hi, List.getElem?_eq_getElem hj, Option.getD_some] at hij
    rcases Nat.lt_trichotomy i j with hlt' | heq | hlt'
    · exact absurd hij (List.pairwise_iff_getElem.1 hnd i j hi hj hlt')
    · exact heq
    · exact absurd hij.symm (List.pairwise_iff_getElem.1 hnd j i hj hi hlt')
  have hlt : ∀ o x, hp Ho o = some x → o < m + k ∧ x.lt (m + k) = true := fun o x hx => by
    have := List.all_eq_true.1 hol _ (lookup_mem' hx)
    simpa using this
  have getL : ∀ {l : List (Nat × LO)} {t : Nat} {e : LO}, hp l t = some e → KeepL (hp L) (renL s l) → hp L (s t) = some (e.mapI s) := by
    intro l
    induction l with
    | nil => intro t e h; simp at h
    | cons p l ih =>
      obtain ⟨pk, pv⟩ := p
      intro t e ht hk
      simp only [renL, List.map_cons, KeepL] at hk
      simp only [hp, List.lookup_cons] at ht
      split at ht
      · rename_i hh; simp at hh; cases ht; subst hh; exact hk.1
      · exact ih ht hk.2
  refine ⟨v, hv, v, c1, rfl, fun hne => ⟨fun o ho => ⟨?_, ?_⟩, fun o => ?_, by rw [← hmd]; exact hr.grow, ⟨fun o x hx => ⟨(hlt o x hx).1, ?_⟩, fun o x b hx hb' => by rw [← hmd]; exact hr.heap.own _ _ b (getL hx hK) (has_map (cx1 := c1) rfl rfl hb'),
    fun o o' x x' b hne' hx hx' hb' hb'' => hr.heap.inj _ _ _ _ b (fun e => hne' (hinj _ _ (hlt o x hx).1 (hlt o' x' hx').1 e)) (getL hx hK) (getL hx' hK) (has_map (cx1 := c1) rfl rfl hb') (has_map (cx1 := c1) rfl rfl hb''), hr.heap.lim⟩, fun o ho hn => absurd hn (hne o ho)⟩, ?_⟩
  · have := (hA o).1 ho
    show o < m + k
    omega
  · show cx.loc (s o) = _
    rw [hs0 o ((hA o).1 ho)]; exact (hr.le o ho).2
  · rw [hA]
    show o < m + k ↔ _
    omega
  · exact ObjOk.unren (cx1 := c1) (cx2 := cx) (σ := s) rfl h1 (hlt o x hx).1 (hlt o x hx).2 rfl (hr.heap.ok _ _ (getL hx hK)).2
  · exact V.unren (cx1 := c1) (cx2 := cx) (σ := s) rfl h1 out v hout (by rw [← hl]; exact hvo)

theorem res_T {fn : Func} {t0 : Nat} {l0 : LV} (h : fn.results = #[.tmp t0]) 
    (h0 : en E t0 = some (true, l0) := by rfl) :
    ResIs P B N D E L n fn (l0) := by
  intro cx a w hr
  refine ⟨a.tmps.getD t0 undef, ?_, ?_⟩
  · simp [results, h]
  · exact (hr.env t0 _ h0).1 rfl
theorem ret_T {fn : Func} {t0 : Nat} {l0 : LV} (h : fn.results = #[.tmp t0])  {m k : Nat} {Hi Ho : List (Nat × LO)} (hA : ∀ o, B.cx.A o ↔ o < m) (hmd : B.md = blks B.cx (hp Hi))
    (h0 : en E t0 = some (true, l0) := by rfl) (hn : m + k ≤ n := by first | omega | decide)
    (hK : KeepL (hp L) Ho := by repeat (first | exact trivial | refine ⟨rfl, ?_⟩))
    (hol : (Ho.all fun p => decide (p.1 < m + k) && p.2.lt (m + k)) = true := by first | rfl | simp [LO.lt, LV.lts, LV.lt, lts_sv]) (hout : LV.lt (m + k) (l0) = true := by first | rfl | simp [LV.lts, LV.lt, lts_sv]) {e : Exit} (he : e = .normal ∨ e = .ret := by first | exact .inr rfl | exact .inl rfl) :
    ∀ cx a w, Rel B N [] (st E L n) cx a w → FnPost P fn B m (l0) Hi Ho k e a w :=
  FnPost.fin (res_T h h0) hA hmd hn hK hol hout he
theorem res_A {fn : Func} {t0 T0 o0 TB0 sz0 : Nat} {cs0 : List LV} (h : fn.results = #[.cell t0 T0]) (f0 : AggF P T0 sz0)
    (h0 : en E t0 = some (true, .ptr o0 0) := by rfl) (b0 : hp L o0 = some (.box TB0 cs0) := by rfl) (c0 : cs0.length = sz0 := by rfl) :
    ResIs P B N D E L n fn (.agg cs0) := by
  intro cx a w hr
  obtain ⟨v0, ad0, p0, q0, r0⟩ := boxLoadA f0 hr h0 b0 c0
  refine ⟨v0, ?_, ?_⟩
  · simp only [Array.getD_eq_getD_getElem?] at p0
    simp [results, h, p0, asAddr, q0]
  · exact r0
theorem ret_A {fn : Func} {t0 T0 o0 TB0 sz0 : Nat} {cs0 : List LV} (h : fn.results = #[.cell t0 T0]) (f0 : AggF P T0 sz0) {m k : Nat} {Hi Ho : List (Nat × LO)} (hA : ∀ o, B.cx.A o ↔ o < m) (hmd : B.md = blks B.cx (hp Hi))
    (h0 : en E t0 = some (true, .ptr o0 0) := by rfl) (b0 : hp L o0 = some (.box TB0 cs0) := by rfl) (c0 : cs0.length = sz0 := by rfl) (hn : m + k ≤ n := by first | omega | decide)
    (hK : KeepL (hp L) Ho := by repeat (first | exact trivial | refine ⟨rfl, ?_⟩))
    (hol : (Ho.all fun p => decide (p.1 < m + k) && p.2.lt (m + k)) = true := by first | rfl | simp [LO.lt, LV.lts, LV.lt, lts_sv]) (hout : LV.lt (m + k) (.agg cs0) = true := by first | rfl | simp [LV.lts, LV.lt, lts_sv]) {e : Exit} (he : e = .normal ∨ e = .ret := by first | exact .inr rfl | exact .inl rfl) :
    ∀ cx a w, Rel B N [] (st E L n) cx a w → FnPost P fn B m (.agg cs0) Hi Ho k e a w :=
  FnPost.fin (res_A h f0 h0 b0 c0) hA hmd hn hK hol hout he
theorem res_B {fn : Func} {t0 T0 o0 TB0 off0 : Nat} {cs0 : List LV} {l0 : LV} (h : fn.results = #[.cell t0 T0]) (f0 : OneF P T0)
    (h0 : en E t0 = some (true, .ptr o0 off0) := by rfl) (b0 : hp L o0 = some (.box TB0 cs0) := by rfl) (c0 : cs0[off0]? = some l0 := by rfl) :
    ResIs P B N D E L n fn (l0) := by
  intro cx a w hr
  obtain ⟨v0, ad0, p0, q0, r0⟩ := boxLoad1 f0 hr h0 b0 c0
  refine ⟨v0, ?_, ?_⟩
  · simp only [Array.getD_eq_getD_getElem?] at p0
    simp [results, h, p0, asAddr, q0]
  · exact r0
theorem ret_B {fn : Func} {t0 T0 o0 TB0 off0 : Nat} {cs0 : List LV} {l0 : LV} (h : fn.results = #[.cell t0 T0]) (f0 : OneF P T0) {m k : Nat} {Hi Ho : List (Nat × LO)} (hA : ∀ o, B.cx.A o ↔ o < m) (hmd : B.md = blks B.cx (hp Hi))
    (h0 : en E t0 = some (true, .ptr o0 off0) := by rfl) (b0 : hp L o0 = some (.box TB0 cs0) := by rfl) (c0 : cs0[off0]? = some l0 := by rfl) (hn : m + k ≤ n := by first | omega | decide)
    (hK : KeepL (hp L) Ho := by repeat (first | exact trivial | refine ⟨rfl, ?_⟩))
    (hol : (Ho.all fun p => decide (p.1 < m + k) && p.2.lt (m + k)) = true := by first | rfl | simp [LO.lt, LV.lts, LV.lt, lts_sv]) (hout : LV.lt (m + k) (l0) = true := by first | rfl | simp [LV.lts, LV.lt, lts_sv]) {e : Exit} (he : e = .normal ∨ e = .ret := by first | exact .inr rfl | exact .inl rfl) :
    ∀ cx a w, Rel B N [] (st E L n) cx a w → FnPost P fn B m (l0) Hi Ho k e a w :=
  FnPost.fin (res_B h f0 h0 b0 c0) hA hmd hn hK hol hout he
theorem res_TT {fn : Func} {t0 : Nat} {l0 : LV} {t1 : Nat} {l1 : LV} (h : fn.results = #[.tmp t0, .tmp t1]) 
    (h0 : en E t0 = some (true, l0) := by rfl) (h1 : en E t1 = some (true, l1) := by rfl) :
    ResIs P B N D E L n fn (.tup [l0, l1]) := by
  intro cx a w hr
  refine ⟨.tuple #[a.tmps.getD t0 undef, a.tmps.getD t1 undef], ?_, ?_⟩
  · simp [results, h]
  · simp only [V, Vs]
    exact ⟨[_, _], rfl, _, _, rfl, (hr.env t0 _ h0).1 rfl, _, _, rfl, (hr.env t1 _ h1).1 rfl, rfl⟩
theorem ret_TT {fn : Func} {t0 : Nat} {l0 : LV} {t1 : Nat} {l1 : LV} (h : fn.results = #[.tmp t0, .tmp t1])  {m k : Nat} {Hi Ho : List (Nat × LO)} (hA : ∀ o, B.cx.A o ↔ o < m) (hmd : B.md = blks B.cx (hp Hi))
    (h0 : en E t0 = some (true, l0) := by rfl) (h1 : en E t1 = some (true, l1) := by rfl) (hn : m + k ≤ n := by first | omega | decide)
    (hK : KeepL (hp L) Ho := by repeat (first | exact trivial | refine ⟨rfl, ?_⟩))
    (hol : (Ho.all fun p => decide (p.1 < m + k) && p.2.lt (m + k)) = true := by first | rfl | simp [LO.lt, LV.lts, LV.lt, lts_sv]) (hout : LV.lt (m + k) (.tup [l0, l1]) = true := by first | rfl | simp [LV.lts, LV.lt, lts_sv]) {e : Exit} (he : e = .normal ∨ e = .ret := by first | exact .inr rfl | exact .inl rfl) :
    ∀ cx a w, Rel B N [] (st E L n) cx a w → FnPost P fn B m (.tup [l0, l1]) Hi Ho k e a w :=
  FnPost.fin (res_TT h h0 h1) hA hmd hn hK hol hout he
theorem res_TA {fn : Func} {t0 : Nat} {l0 : LV} {t1 T1 o1 TB1 sz1 : Nat} {cs1 : List LV} (h : fn.results = #[.tmp t0, .cell t1 T1]) (f1 : AggF P T1 sz1)
    (h0 : en E t0 = some (true, l0) := by rfl) (h1 : en E t1 = some (true, .ptr o1 0) := by rfl) (b1 : hp L o1 = some (.box TB1 cs1) := by rfl) (c1 : cs1.length = sz1 := by rfl) :
    ResIs P B N D E L n fn (.tup [l0, .agg cs1]) := by
  intro cx a w hr
  obtain ⟨v1, ad1, p1, q1, r1⟩ := boxLoadA f1 hr h1 b1 c1
  refine ⟨.tuple #[a.tmps.getD t0 undef, v1], ?_, ?_⟩
  · simp only [Array.getD_eq_getD_getElem?] at p1
    simp [results, h, p1, asAddr, q1]
  · rw [V]
    refine ⟨[_, _], rfl, ?_⟩
    simp only [Vs]
    exact ⟨_, _, rfl, (hr.env t0 _ h0).1 rfl, _, _, rfl, r1, rfl⟩
theorem ret_TA {fn : Func} {t0 : Nat} {l0 : LV} {t1 T1 o1 TB1 sz1 : Nat} {cs1 : List LV} (h : fn.results = #[.tmp t0, .cell t1 T1]) (f1 : AggF P T1 sz1) {m k : Nat} {Hi Ho : List (Nat × LO)} (hA : ∀ o, B.cx.A o ↔ o < m) (hmd : B.md = blks B.cx (hp Hi))
    (h0 : en E t0 = some (true, l0) := by rfl) (h1 : en E t1 = some (true, .ptr o1 0) := by rfl) (b1 : hp L o1 = some (.box TB1 cs1) := by rfl) (c1 : cs1.length = sz1 := by rfl) (hn : m + k ≤ n := by first | omega | decide)
    (hK : KeepL (hp L) Ho := by repeat (first | exact trivial | refine ⟨rfl, ?_⟩))
    (hol : (Ho.all fun p => decide (p.1 < m + k) && p.2.lt (m + k)) = true := by first | rfl | simp [LO.lt, LV.lts, LV.lt, lts_sv]) (hout : LV.lt (m + k) (.tup [l0, .agg cs1]) = true := by first | rfl | simp [LV.lts, LV.lt, lts_sv]) {e : Exit} (he : e = .normal ∨ e = .ret := by first | exact .inr rfl | exact .inl rfl) :
    ∀ cx a w, Rel B N [] (st E L n) cx a w → FnPost P fn B m (.tup [l0, .agg cs1]) Hi Ho k e a w :=
  FnPost.fin (res_TA h f1 h0 h1 b1 c1) hA hmd hn hK hol hout he
theorem res_TB {fn : Func} {t0 : Nat} {l0 : LV} {t1 T1 o1 TB1 off1 : Nat} {cs1 : List LV} {l1 : LV} (h : fn.results = #[.tmp t0, .cell t1 T1]) (f1 : OneF P T1)
    (h0 : en E t0 = some (true, l0) := by rfl) (h1 : en E t1 = some (true, .ptr o1 off1) := by rfl) (b1 : hp L o1 = some (.box TB1 cs1) := by rfl) (c1 : cs1[off1]? = some l1 := by rfl) :
    ResIs P B N D E L n fn (.tup [l0, l1]) := by
  intro cx a w hr
  obtain ⟨v1, ad1, p1, q1, r1⟩ := boxLoad1 f1 hr h1 b1 c1
  refine ⟨.tuple #[a.tmps.getD t0 undef, v1], ?_, ?_⟩
  · simp only [Array.getD_eq_getD_getElem?] at p1
    simp [results, h, p1, asAddr, q1]
  · rw [V]
    refine ⟨[_, _], rfl, ?_⟩
    simp only [Vs]
    exact ⟨_, _, rfl, (hr.env t0 _ h0).1 rfl, _, _, rfl, r1, rfl⟩
theorem ret_TB {fn : Func} {t0 : Nat} {l0 : LV} {t1 T1 o1 TB1 off1 : Nat} {cs1 : List LV} {l1 : LV} (h : fn.results = #[.tmp t0, .cell t1 T1]) (f1 : OneF P T1) {m k : Nat} {Hi Ho : List (Nat × LO)} (hA : ∀ o, B.cx.A o ↔ o < m) (hmd : B.md = blks B.cx (hp Hi))
    (h0 : en E t0 = some (true, l0) := by rfl) (h1 : en E t1 = some (true, .ptr o1 off1) := by rfl) (b1 : hp L o1 = some (.box TB1 cs1) := by rfl) (c1 : cs1[off1]? = some l1 := by rfl) (hn : m + k ≤ n := by first | omega | decide)
    (hK : KeepL (hp L) Ho := by repeat (first | exact trivial | refine ⟨rfl, ?_⟩))
    (hol : (Ho.all fun p => decide (p.1 < m + k) && p.2.lt (m + k)) = true := by first | rfl | simp [LO.lt, LV.lts, LV.lt, lts_sv]) (hout : LV.lt (m + k) (.tup [l0, l1]) = true := by first | rfl | simp [LV.lts, LV.lt, lts_sv]) {e : Exit} (he : e = .normal ∨ e = .ret := by first | exact .inr rfl | exact .inl rfl) :
    ∀ cx a w, Rel B N [] (st E L n) cx a w → FnPost P fn B m (.tup [l0, l1]) Hi Ho k e a w :=
  FnPost.fin (res_TB h f1 h0 h1 b1 c1) hA hmd hn hK hol hout he
theorem res_AT {fn : Func} {t0 T0 o0 TB0 sz0 : Nat} {cs0 : List LV} {t1 : Nat} {l1 : LV} (h : fn.results = #[.cell t0 T0, .tmp t1]) (f0 : AggF P T0 sz0)
    (h0 : en E t0 = some (true, .ptr o0 0) := by rfl) (b0 : hp L o0 = some (.box TB0 cs0) := by rfl) (c0 : cs0.length = sz0 := by rfl) (h1 : en E t1 = some (true, l1) := by rfl) :
    ResIs P B N D E L n fn (.tup [.agg cs0, l1]) := by
  intro cx a w hr
  obtain ⟨v0, ad0, p0, q0, r0⟩ := boxLoadA f0 hr h0 b0 c0
  refine ⟨.tuple #[v0, a.tmps.getD t1 undef], ?_, ?_⟩
  · simp only [Array.getD_eq_getD_getElem?] at p0
    simp [results, h, p0, asAddr, q0]
  · rw [V]
    refine ⟨[_, _], rfl, ?_⟩
    simp only [Vs]
    exact ⟨_, _, rfl, r0, _, _, rfl, (hr.env t1 _ h1).1 rfl, rfl⟩
theorem ret_AT {fn : Func} {t0 T0 o0 TB0 sz0 : Nat} {cs0 : List LV} {t1 : Nat} {l1 : LV} (h : fn.results = #[.cell t0 T0, .tmp t1]) (f0 : AggF P T0 sz0) {m k : Nat} {Hi Ho : List (Nat × LO)} (hA : ∀ o, B.cx.A o ↔ o < m) (hmd : B.md = blks B.cx (hp Hi))
    (h0 : en E t0 = some (true, .ptr o0 0) := by rfl) (b0 : hp L o0 = some (.box TB0 cs0) := by rfl) (c0 : cs0.length = sz0 := by rfl) (h1 : en E t1 = some (true, l1) := by rfl) (hn : m + k ≤ n := by first | omega | decide)
    (hK : KeepL (hp L) Ho := by repeat (first | exact trivial | refine ⟨rfl, ?_⟩))
    (hol : (Ho.all fun p => decide (p.1 < m + k) && p.2.lt (m + k)) = true := by first | rfl | simp [LO.lt, LV.lts, LV.lt, lts_sv]) (hout : LV.lt (m + k) (.tup [.agg cs0, l1]) = true := by first | rfl | simp [LV.lts, LV.lt, lts_sv]) {e : Exit} (he : e = .normal ∨ e = .ret := by first | exact .inr rfl | exact .inl rfl) :
    ∀ cx a w, Rel B N [] (st E L n) cx a w → FnPost P fn B m (.tup [.agg cs0, l1]) Hi Ho k e a w :=
  FnPost.fin (res_AT h f0 h0 b0 c0 h1) hA hmd hn hK hol hout he
theorem res_AA {fn : Func} {t0 T0 o0 TB0 sz0 : Nat} {cs0 : List LV} {t1 T1 o1 TB1 sz1 : Nat} {cs1 : List LV} (h : fn.results = #[.cell t0 T0, .cell t1 T1]) (f0 : AggF P T0 sz0) (f1 : AggF P T1 sz1)
    (h0 : en E t0 = some (true, .ptr o0 0) := by rfl) (b0 : hp L o0 = some (.box TB0 cs0) := by rfl) (c0 : cs0.length = sz0 := by rfl) (h1 : en E t1 = some (true, .ptr o1 0) := by rfl) (b1 : hp L o1 = some (.box TB1 cs1) := by rfl) (c1 : cs1.length = sz1 := by rfl) :
    ResIs P B N D E L n fn (.tup [.agg cs0, .agg cs1]) := by
  intro cx a w hr
  obtain ⟨v0, ad0, p0, q0, r0⟩ := boxLoadA f0 hr h0 b0 c0
  obtain ⟨v1, ad1, p1, q1, r1⟩ := boxLoadA f1 hr h1 b1 c1
  refine ⟨.tuple #[v0, v1], ?_, ?_⟩
  · simp only [Array.getD_eq_getD_getElem?] at p0 p1
    simp [results, h, p0, asAddr, q0, p1, asAddr, q1]
  · rw [V]
    refine ⟨[_, _], rfl, ?_⟩
    simp only [Vs]
    exact ⟨_, _, rfl, r0, _, _, rfl, r1, rfl⟩
theorem ret_AA {fn : Func} {t0 T0 o0 TB0 sz0 : Nat} {cs0 : List LV} {t1 T1 o1 TB1 sz1 : Nat} {cs1 : List LV} (h : fn.results = #[.cell t0 T0, .cell t1 T1]) (f0 : AggF P T0 sz0) (f1 : AggF P T1 sz1) {m k : Nat} {Hi Ho : List (Nat × LO)} (hA : ∀ o, B.cx.A o ↔ o < m) (hmd : B.md = blks B.cx (hp Hi))
    (h0 : en E t0 = some (true, .ptr o0 0) := by rfl) (b0 : hp L o0 = some (.box TB0 cs0) := by rfl) (c0 : cs0.length = sz0 := by rfl) (h1 : en E t1 = some (true, .ptr o1 0) := by rfl) (b1 : hp L o1 = some (.box TB1 cs1) := by rfl) (c1 : cs1.length = sz1 := by rfl) (hn : m + k ≤ n := by first | omega | decide)
    (hK : KeepL (hp L) Ho := by repeat (first | exact trivial | refine ⟨rfl, ?_⟩))
    (hol : (Ho.all fun p => decide (p.1 < m + k) && p.2.lt (m + k)) = true := by first | rfl | simp [LO.lt, LV.lts, LV.lt, lts_sv]) (hout : LV.lt (m + k) (.tup [.agg cs0, .agg cs1]) = true := by first | rfl | simp [LV.lts, LV.lt, lts_sv]) {e : Exit} (he : e = .normal ∨ e = .ret := by first | exact .inr rfl | exact .inl rfl) :
    ∀ cx a w, Rel B N [] (st E L n) cx a w → FnPost P fn B m (.tup [.agg cs0, .agg cs1]) Hi Ho k e a w :=
  FnPost.fin (res_AA h f0 f1 h0 b0 c0 h1 b1 c1) hA hmd hn hK hol hout he
theorem res_AB {fn : Func} {t0 T0 o0 TB0 sz0 : Nat} {cs0 : List LV} {t1 T1 o1 TB1 off1 : Nat} {cs1 : List LV} {l1 : LV} (h : fn.results = #[.cell t0 T0, .cell t1 T1]) (f0 : AggF P T0 sz0) (f1 : OneF P T1)
    (h0 : en E t0 = some (true, .ptr o0 0) := by rfl) (b0 : hp L o0 = some (.box TB0 cs0) := by rfl) (c0 : cs0.length = sz0 := by rfl) (h1 : en E t1 = some (true, .ptr o1 off1) := by rfl) (b1 : hp L o1 = some (.box TB1 cs1) := by rfl) (c1 : cs1[off1]? = some l1 := by rfl) :
    ResIs P B N D E L n fn (.tup [.agg cs0, l1]) := by
  intro cx a w hr
  obtain ⟨v0, ad0, p0, q0, r0⟩ := boxLoadA f0 hr h0 b0 c0
  obtain ⟨v1, ad1, p1, q1, r1⟩ := boxLoad1 f1 hr h1 b1 c1
  refine ⟨.tuple #[v0, v1], ?_, ?_⟩
  · simp only [Array.getD_eq_getD_getElem?] at p0 p1
    simp [results, h, p0, asAddr, q0, p1, asAddr, q1]
  · rw [V]
    refine ⟨[_, _], rfl, ?_⟩
    simp only [Vs]
    exact ⟨_, _, rfl, r0, _, _, rfl, r1, rfl⟩
theorem ret_AB {fn : Func} {t0 T0 o0 TB0 sz0 : Nat} {cs0 : List LV} {t1 T1 o1 TB1 off1 : Nat} {cs1 : List LV} {l1 : LV} (h : fn.results = #[.cell t0 T0, .cell t1 T1]) (f0 : AggF P T0 sz0) (f1 : OneF P T1) {m k : Nat} {Hi Ho : List (Nat × LO)} (hA : ∀ o, B.cx.A o ↔ o < m) (hmd : B.md = blks B.cx (hp Hi))
    (h0 : en E t0 = some (true, .ptr o0 0) := by rfl) (b0 : hp L o0 = some (.box TB0 cs0) := by rfl) (c0 : cs0.length = sz0 := by rfl) (h1 : en E t1 = some (true, .ptr o1 off1) := by rfl) (b1 : hp L o1 = some (.box TB1 cs1) := by rfl) (c1 : cs1[off1]? = some l1 := by rfl) (hn : m + k ≤ n := by first | omega | decide)
    (hK : KeepL (hp L) Ho := by repeat (first | exact trivial | refine ⟨rfl, ?_⟩))
    (hol : (Ho.all fun p => decide (p.1 < m + k) && p.2.lt (m + k)) = true := by first | rfl | simp [LO.lt, LV.lts, LV.lt, lts_sv]) (hout : LV.lt (m + k) (.tup [.agg cs0, l1]) = true := by first | rfl | simp [LV.lts, LV.lt, lts_sv]) {e : Exit} (he : e = .normal ∨ e = .ret := by first | exact .inr rfl | exact .inl rfl) :
    ∀ cx a w, Rel B N [] (st E L n) cx a w → FnPost P fn B m (.tup [.agg cs0, l1]) Hi Ho k e a w :=
  FnPost.fin (res_AB h f0 f1 h0 b0 c0 h1 b1 c1) hA hmd hn hK hol hout he
theorem res_BT {fn : Func} {t0 T0 o0 TB0 off0 : Nat} {cs0 : List LV} {l0 : LV} {t1 : Nat} {l1 : LV} (h : fn.results = #[.cell t0 T0, .tmp t1]) (f0 : OneF P T0)
    (h0 : en E t0 = some (true, .ptr o0 off0) := by rfl) (b0 : hp L o0 = some (.box TB0 cs0) := by rfl) (c0 : cs0[off0]? = some l0 := by rfl) (h1 : en E t1 = some (true, l1) := by rfl) :
    ResIs P B N D E L n fn (.tup [l0, l1]) := by
  intro cx a w hr
  obtain ⟨v0, ad0, p0, q0, r0⟩ := boxLoad1 f0 hr h0 b0 c0
  refine ⟨.tuple #[v0, a.tmps.getD t1 undef], ?_, ?_⟩
  · simp only [Array.getD_eq_getD_getElem?] at p0
    simp [results, h, p0, asAddr, q0]
  · rw [V]
    refine ⟨[_, _], rfl, ?_⟩
    simp only [Vs]
    exact ⟨_, _, rfl, r0, _, _, rfl, (hr.env t1 _ h1).1 rfl, rfl⟩
theorem ret_BT {fn : Func} {t0 T0 o0 TB0 off0 : Nat} {cs0 : List LV} {l0 : LV} {t1 : Nat} {l1 : LV} (h : fn.results = #[.cell t0 T0, .tmp t1]) (f0 : OneF P T0) {m k : Nat} {Hi Ho : List (Nat × LO)} (hA : ∀ o, B.cx.A o ↔ o < m) (hmd : B.md = blks B.cx (hp Hi))
    (h0 : en E t0 = some (true, .ptr o0 off0) := by rfl) (b0 : hp L o0 = some (.box TB0 cs0) := by rfl) (c0 : cs0[off0]? = some l0 := by rfl) (h1 : en E t1 = some (true, l1) := by rfl) (hn : m + k ≤ n := by first | omega | decide)
    (hK : KeepL (hp L) Ho := by repeat (first | exact trivial | refine ⟨rfl, ?_⟩))
    (hol : (Ho.all fun p => decide (p.1 < m + k) && p.2.lt (m + k)) = true := by first | rfl | simp [LO.lt, LV.lts, LV.lt, lts_sv]) (hout : LV.lt (m + k) (.tup [l0, l1]) = true := by first | rfl | simp [LV.lts, LV.lt, lts_sv]) {e : Exit} (he : e = .normal ∨ e = .ret := by first | exact .inr rfl | exact .inl rfl) :
    ∀ cx a w, Rel B N [] (st E L n) cx a w → FnPost P fn B m (.tup [l0, l1]) Hi Ho k e a w :=
  FnPost.fin (res_BT h f0 h0 b0 c0 h1) hA hmd hn hK hol hout he
theorem res_BA {fn : Func} {t0 T0 o0 TB0 off0 : Nat} {cs0 : List LV} {l0 : LV} {t1 T1 o1 TB1 sz1 : Nat} {cs1 : List LV} (h : fn.results = #[.cell t0 T0, .cell t1 T1]) (f0 : OneF P T0) (f1 : AggF P T1 sz1)
    (h0 : en E t0 = some (true, .ptr o0 off0) := by rfl) (b0 : hp L o0 = some (.box TB0 cs0) := by rfl) (c0 : cs0[off0]? = some l0 := by rfl) (h1 : en E t1 = some (true, .ptr o1 0) := by rfl) (b1 : hp L o1 = some (.box TB1 cs1) := by rfl) (c1 : cs1.length = sz1 := by rfl) :
    ResIs P B N D E L n fn (.tup [l0, .agg cs1]) := by
  intro cx a w hr
  obtain ⟨v0, ad0, p0, q0, r0⟩ := boxLoad1 f0 hr h0 b0 c0
  obtain ⟨v1, ad1, p1, q1, r1⟩ := boxLoadA f1 hr h1 b1 c1
  refine ⟨.tuple #[v0, v1], ?_, ?_⟩
  · simp only [Array.getD_eq_getD_getElem?] at p0 p1
    simp [results, h, p0, asAddr, q0, p1, asAddr, q1]
  · rw [V]
    refine ⟨[_, _], rfl, ?_⟩
    simp only [Vs]
    exact ⟨_, _, rfl, r0, _, _, rfl, r1, rfl⟩
theorem ret_BA {fn : Func} {t0 T0 o0 TB0 off0 : Nat} {cs0 : List LV} {l0 : LV} {t1 T1 o1 TB1 sz1 : Nat} {cs1 : List LV} (h : fn.results = #[.cell t0 T0, .cell t1 T1]) (f0 : OneF P T0) (f1 : AggF P T1 sz1) {m k : Nat} {Hi Ho : List (Nat × LO)} (hA : ∀ o, B.cx.A o ↔ o < m) (hmd : B.md = blks B.cx (hp Hi))
    (h0 : en E t0 = some (true, .ptr o0 off0) := by rfl) (b0 : hp L o0 = some (.box TB0 cs0) := by rfl) (c0 : cs0[off0]? = some l0 := by rfl) (h1 : en E t1 = some (true, .ptr o1 0) := by rfl) (b1 : hp L o1 = some (.box TB1 cs1) := by rfl) (c1 : cs1.length = sz1 := by rfl) (hn : m + k ≤ n := by first | omega | decide)
    (hK : KeepL (hp L) Ho := by repeat (first | exact trivial | refine ⟨rfl, ?_⟩))
    (hol : (Ho.all fun p => decide (p.1 < m + k) && p.2.lt (m + k)) = true := by first | rfl | simp [LO.lt, LV.lts, LV.lt, lts_sv]) (hout : LV.lt (m + k) (.tup [l0, .agg cs1]) = true := by first | rfl | simp [LV.lts, LV.lt, lts_sv]) {e : Exit} (he : e = .normal ∨ e = .ret := by first | exact .inr rfl | exact .inl rfl) :
    ∀ cx a w, Rel B N [] (st E L n) cx a w → FnPost P fn B m (.tup [l0, .agg cs1]) Hi Ho k e a w :=
  FnPost.fin (res_BA h f0 f1 h0 b0 c0 h1 b1 c1) hA hmd hn hK hol hout he
theorem res_BB {fn : Func} {t0 T0 o0 TB0 off0 : Nat} {cs0 : List LV} {l0 : LV} {t1 T1 o1 TB1 off1 : Nat} {cs1 : List LV} {l1 : LV} (h : fn.results = #[.cell t0 T0, .cell t1 T1]) (f0 : OneF P T0) (f1 : OneF P T1)
    (h0 : en E t0 = some (true, .ptr o0 off0) := by rfl) (b0 : hp L o0 = some (.box TB0 cs0) := by rfl) (c0 : cs0[off0]? = some l0 := by rfl) (h1 : en E t1 = some (true, .ptr o1 off1) := by rfl) (b1 : hp L o1 = some (.box TB1 cs1) := by rfl) (c1 : cs1[off1]? = some l1 := by rfl) :
    ResIs P B N D E L n fn (.tup [l0, l1]) := by
  intro cx a w hr
  obtain ⟨v0, ad0, p0, q0, r0⟩ := boxLoad1 f0 hr h0 b0 c0
  obtain ⟨v1, ad1, p1, q1, r1⟩ := boxLoad1 f1 hr h1 b1 c1
  refine ⟨.tuple #[v0, v1], ?_, ?_⟩
  · simp only [Array.getD_eq_getD_getElem?] at p0 p1
    simp [results, h, p0, asAddr, q0, p1, asAddr, q1]
  · rw [V]
    refine ⟨[_, _], rfl, ?_⟩
    simp only [Vs]
    exact ⟨_, _, rfl, r0, _, _, rfl, r1, rfl⟩
theorem ret_BB {fn : Func} {t0 T0 o0 TB0 off0 : Nat} {cs0 : List LV} {l0 : LV} {t1 T1 o1 TB1 off1 : Nat} {cs1 : List LV} {l1 : LV} (h : fn.results = #[.cell t0 T0, .cell t1 T1]) (f0 : OneF P T0) (f1 : OneF P T1) {m k : Nat} {Hi Ho : List (Nat × LO)} (hA : ∀ o, B.cx.A o ↔ o < m) (hmd : B.md = blks B.cx (hp Hi))
    (h0 : en E t0 = some (true, .ptr o0 off0) := by rfl) (b0 : hp L o0 = some (.box TB0 cs0) := by rfl) (c0 : cs0[off0]? = some l0 := by rfl) (h1 : en E t1 = some (true, .ptr o1 off1) := by rfl) (b1 : hp L o1 = some (.box TB1 cs1) := by rfl) (c1 : cs1[off1]? = some l1 := by rfl) (hn : m + k ≤ n := by first | omega | decide)
    (hK : KeepL (hp L) Ho := by repeat (first | exact trivial | refine ⟨rfl, ?_⟩))
    (hol : (Ho.all fun p => decide (p.1 < m + k) && p.2.lt (m + k)) = true := by first | rfl | simp [LO.lt, LV.lts, LV.lt, lts_sv]) (hout : LV.lt (m + k) (.tup [l0, l1]) = true := by first | rfl | simp [LV.lts, LV.lt, lts_sv]) {e : Exit} (he : e = .normal ∨ e = .ret := by first | exact .inr rfl | exact .inl rfl) :
    ∀ cx a w, Rel B N [] (st E L n) cx a w → FnPost P fn B m (.tup [l0, l1]) Hi Ho k e a w :=
  FnPost.fin (res_BB h f0 f1 h0 b0 c0 h1 b1 c1) hA hmd hn hK hol hout he
theorem res_TTT {fn : Func} {t0 : Nat} {l0 : LV} {t1 : Nat} {l1 : LV} {t2 : Nat} {l2 : LV} (h : fn.results = #[.tmp t0, .tmp t1, .tmp t2]) 
    (h0 : en E t0 = some (true, l0) := by rfl) (h1 : en E t1 = some (true, l1) := by rfl) (h2 : en E t2 = some (true, l2) := by rfl) :
    ResIs P B N D E L n fn (.tup [l0, l1, l2]) := by
  intro cx a w hr
  refine ⟨.tuple #[a.tmps.getD t0 undef, a.tmps.getD t1 undef, a.tmps.getD t2 undef], ?_, ?_⟩
  · simp [results, h]
  · simp only [V, Vs]
    exact ⟨[_, _, _], rfl, _, _, rfl, (hr.env t0 _ h0).1 rfl, _, _, rfl, (hr.env t1 _ h1).1 rfl, _, _, rfl, (hr.env t2 _ h2).1 rfl, rfl⟩
theorem ret_TTT {fn : Func} {t0 : Nat} {l0 : LV} {t1 : Nat} {l1 : LV} {t2 : Nat} {l2 : LV} (h : fn.results = #[.tmp t0, .tmp t1, .tmp t2])  {m k : Nat} {Hi Ho : List (Nat × LO)} (hA : ∀ o, B.cx.A o ↔ o < m) (hmd : B.md = blks B.cx (hp Hi))
    (h0 : en E t0 = some (true, l0) := by rfl) (h1 : en E t1 = some (true, l1) := by rfl) (h2 : en E t2 = some (true, l2) := by rfl) (hn : m + k ≤ n := by first | omega | decide)
    (hK : KeepL (hp L) Ho := by repeat (first | exact trivial | refine ⟨rfl, ?_⟩))
    (hol : (Ho.all fun p => decide (p.1 < m + k) && p.2.lt (m + k)) = true := by first | rfl | simp [LO.lt, LV.lts, LV.lt, lts_sv]) (hout : LV.lt (m + k) (.tup [l0, l1, l2]) = true := by first | rfl | simp [LV.lts, LV.lt, lts_sv]) {e : Exit} (he : e = .normal ∨ e = .ret := by first | exact .inr rfl | exact .inl rfl) :
    ∀ cx a w, Rel B N [] (st E L n) cx a w → FnPost P fn B m (.tup [l0, l1, l2]) Hi Ho k e a w :=
  FnPost.fin (res_TTT h h0 h1 h2) hA hmd hn hK hol hout he
theorem res_TTA {fn : Func} {t0 : Nat} {l0 : LV} {t1 : Nat} {l1 : LV} {t2 T2 o2 TB2 sz2 : Nat} {cs2 : List LV} (h : fn.results = #[.tmp t0, .tmp t1, .cell t2 T2]) (f2 : AggF P T2 sz2)
    (h0 : en E t0 = some (true, l0) := by rfl) (h1 : en E t1 = some (true, l1) := by rfl) (h2 : en E t2 = some (true, .ptr o2 0) := by rfl) (b2 : hp L o2 = some (.box TB2 cs2) := by rfl) (c2 : cs2.length = sz2 := by rfl) :
    ResIs P B N D E L n fn (.tup [l0, l1, .agg cs2]) := by
  intro cx a w hr
  obtain ⟨v2, ad2, p2, q2, r2⟩ := boxLoadA f2 hr h2 b2 c2
  refine ⟨.tuple #[a.tmps.getD t0 undef, a.tmps.getD t1 undef, v2], ?_, ?_⟩
  · simp only [Array.getD_eq_getD_getElem?] at p2
    simp [results, h, p2, asAddr, q2]
  · rw [V]
    refine ⟨[_, _, _], rfl, ?_⟩
    simp only [Vs]
    exact ⟨_, _, rfl, (hr.env t0 _ h0).1 rfl, _, _, rfl, (hr.env t1 _ h1).1 rfl, _, _, rfl, r2, rfl⟩
theorem ret_TTA {fn : Func} {t0 : Nat} {l0 : LV} {t1 : Nat} {l1 : LV} {t2 T2 o2 TB2 sz2 : Nat} {cs2 : List LV} (h : fn.results = #[.tmp t0, .tmp t1, .cell t2 T2]) (f2 : AggF P T2 sz2) {m k : Nat} {Hi Ho : List (Nat × LO)} (hA : ∀ o, B.cx.A o ↔ o < m) (hmd : B.md = blks B.cx (hp Hi))
    (h0 : en E t0 = some (true, l0) := by rfl) (h1 : en E t1 = some (true, l1) := by rfl) (h2 : en E t2 = some (true, .ptr o2 0) := by rfl) (b2 : hp L o2 = some (.box TB2 cs2) := by rfl) (c2 : cs2.length = sz2 := by rfl) (hn : m + k ≤ n := by first | omega | decide)
    (hK : KeepL (hp L) Ho := by repeat (first | exact trivial | refine ⟨rfl, ?_⟩))
    (hol : (Ho.all fun p => decide (p.1 < m + k) && p.2.lt (m + k)) = true := by first | rfl | simp [LO.lt, LV.lts, LV.lt, lts_sv]) (hout : LV.lt (m + k) (.tup [l0, l1, .agg cs2]) = true := by first | rfl | simp [LV.lts, LV.lt, lts_sv]) {e : Exit} (he : e = .normal ∨ e = .ret := by first | exact .inr rfl | exact .inl rfl) :
    ∀ cx a w, Rel B N [] (st E L n) cx a w → FnPost P fn B m (.tup [l0, l1, .agg cs2]) Hi Ho k e a w :=
  FnPost.fin (res_TTA h f2 h0 h1 h2 b2 c2) hA hmd hn hK hol hout he
theorem res_TTB {fn : Func} {t0 : Nat} {l0 : LV} {t1 : Nat} {l1 : LV} {t2 T2 o2 TB2 off2 : Nat} {cs2 : List LV} {l2 : LV} (h : fn.results = #[.tmp t0, .tmp t1, .cell t2 T2]) (f2 : OneF P T2)
    (h0 : en E t0 = some (true, l0) := by rfl) (h1 : en E t1 = some (true, l1) := by rfl) (h2 : en E t2 = some (true, .ptr o2 off2) := by rfl) (b2 : hp L o2 = some (.box TB2 cs2) := by rfl) (c2 : cs2[off2]? = some l2 := by rfl) :
    ResIs P B N D E L n fn (.tup [l0, l1, l2]) := by
  intro cx a w hr
  obtain ⟨v2, ad2, p2, q2, r2⟩ := boxLoad1 f2 hr h2 b2 c2
  refine ⟨.tuple #[a.tmps.getD t0 undef, a.tmps.getD t1 undef, v2], ?_, ?_⟩
  · simp only [Array.getD_eq_getD_getElem?] at p2
    simp [results, h, p2, asAddr, q2]
  · rw [V]
    refine ⟨[_, _, _], rfl, ?_⟩
    simp only [Vs]
    exact ⟨_, _, rfl, (hr.env t0 _ h0).1 rfl, _, _, rfl, (hr.env t1 _ h1).1 rfl, _, _, rfl, r2, rfl⟩
theorem ret_TTB {fn : Func} {t0 : Nat} {l0 : LV} {t1 : Nat} {l1 : LV} {t2 T2 o2 TB2 off2 : Nat} {cs2 : List LV} {l2 : LV} (h : fn.results = #[.tmp t0, .tmp t1, .cell t2 T2]) (f2 : OneF P T2) {m k : Nat} {Hi Ho : List (Nat × LO)} (hA : ∀ o, B.cx.A o ↔ o < m) (hmd : B.md = blks B.cx (hp Hi))
    (h0 : en E t0 = some (true, l0) := by rfl) (h1 : en E t1 = some (true, l1) := by rfl) (h2 : en E t2 = some (true, .ptr o2 off2) := by rfl) (b2 : hp L o2 = some (.box TB2 cs2) := by rfl) (c2 : cs2[off2]? = some l2 := by rfl) (hn : m + k ≤ n := by first | omega | decide)
    (hK : KeepL (hp L) Ho := by repeat (first | exact trivial | refine ⟨rfl, ?_⟩))
    (hol : (Ho.all fun p => decide (p.1 < m + k) && p.2.lt (m + k)) = true := by first | rfl | simp [LO.lt, LV.lts, LV.lt, lts_sv]) (hout : LV.lt (m + k) (.tup [l0, l1, l2]) = true := by first | rfl | simp [LV.lts, LV.lt, lts_sv]) {e : Exit} (he : e = .normal ∨ e = .ret := by first | exact .inr rfl | exact .inl rfl) :
    ∀ cx a w, Rel B N [] (st E L n) cx a w → FnPost P fn B m (.tup [l0, l1, l2]) Hi Ho k e a w :=
  FnPost.fin (res_TTB h f2 h0 h1 h2 b2 c2) hA hmd hn hK hol hout he
theorem res_TAT {fn : Func} {t0 : Nat} {l0 : LV} {t1 T1 o1 TB1 sz1 : Nat} {cs1 : List LV} {t2 : Nat} {l2 : LV} (h : fn.results = #[.tmp t0, .cell t1 T1, .tmp t2]) (f1 : AggF P T1 sz1)
    (h0 : en E t0 = some (true, l0) := by rfl) (h1 : en E t1 = some (true, .ptr o1 0) := by rfl) (b1 : hp L o1 = some (.box TB1 cs1) := by rfl) (c1 : cs1.length = sz1 := by rfl) (h2 : en E t2 = some (true, l2) := by rfl) :
    ResIs P B N D E L n fn (.tup [l0, .agg cs1, l2]) := by
  intro cx a w hr
  obtain ⟨v1, ad1, p1, q1, r1⟩ := boxLoadA f1 hr h1 b1 c1
  refine ⟨.tuple #[a.tmps.getD t0 undef, v1, a.tmps.getD t2 undef], ?_, ?_⟩
  · simp only [Array.getD_eq_getD_getElem?] at p1
    simp [results, h, p1, asAddr, q1]
  · rw [V]
    refine ⟨[_, _, _], rfl, ?_⟩
    simp only [Vs]
    exact ⟨_, _, rfl, (hr.env t0 _ h0).1 rfl, _, _, rfl, r1, _, _, rfl, (hr.env t2 _ h2).1 rfl, rfl⟩
theorem ret_TAT {fn : Func} {t0 : Nat} {l0 : LV} {t1 T1 o1 TB1 sz1 : Nat} {cs1 : List LV} {t2 : Nat} {l2 : LV} (h : fn.results = #[.tmp t0, .cell t1 T1, .tmp t2]) (f1 : AggF P T1 sz1) {m k : Nat} {Hi Ho : List (Nat × LO)} (hA : ∀ o, B.cx.A o ↔ o < m) (hmd : B.md = blks B.cx (hp Hi))
    (h0 : en E t0 = some (true, l0) := by rfl) (h1 : en E t1 = some (true, .ptr o1 0) := by rfl) (b1 : hp L o1 = some (.box TB1 cs1) := by rfl) (c1 : cs1.length = sz1 := by rfl) (h2 : en E t2 = some (true, l2) := by rfl) (hn : m + k ≤ n := by first | omega | decide)
    (hK : KeepL (hp L) Ho := by repeat (first | exact trivial | refine ⟨rfl, ?_⟩))
    (hol : (Ho.all fun p => decide (p.1 < m + k) && p.2.lt (m + k)) = true := by first | rfl | simp [LO.lt, LV.lts, LV.lt, lts_sv]) (hout : LV.lt (m + k) (.tup [l0, .agg cs1, l2]) = true := by first | rfl | simp [LV.lts, LV.lt, lts_sv]) {e : Exit} (he : e = .normal ∨ e = .ret := by first | exact .inr rfl | exact .inl rfl) :
    ∀ cx a w, Rel B N [] (st E L n) cx a w → FnPost P fn B m (.tup [l0, .agg cs1, l2]) Hi Ho k e a w :=
  FnPost.fin (res_TAT h f1 h0 h1 b1 c1 h2) hA hmd hn hK hol hout he
theorem res_TAA {fn : Func} {t0 : Nat} {l0 : LV} {t1 T1 o1 TB1 sz1 : Nat} {cs1 : List LV} {t2 T2 o2 TB2 sz2 : Nat} {cs2 : List LV} (h : fn.results = #[.tmp t0, .cell t1 T1, .cell t2 T2]) (f1 : AggF P T1 sz1) (f2 : AggF P T2 sz2)
    (h0 : en E t0 = some (true, l0) := by rfl) (h1 : en E t1 = some (true, .ptr o1 0) := by rfl) (b1 : hp L o1 = some (.box TB1 cs1) := by rfl) (c1 : cs1.length = sz1 := by rfl) (h2 : en E t2 = some (true, .ptr o2 0) := by rfl) (b2 : hp L o2 = some (.box TB2 cs2) := by rfl) (c2 : cs2.length = sz2 := by rfl) :
    ResIs P B N D E L n fn (.tup [l0, .agg cs1, .agg cs2]) := by
  intro cx a w hr
  obtain ⟨v1, ad1, p1, q1, r1⟩ := boxLoadA f1 hr h1 b1 c1
  obtain ⟨v2, ad2, p2, q2, r2⟩ := boxLoadA f2 hr h2 b2 c2
  refine ⟨.tuple #[a.tmps.getD t0 undef, v1, v2], ?_, ?_⟩
  · simp only [Array.getD_eq_getD_getElem?] at p1 p2
    simp [results, h, p1, asAddr, q1, p2, asAddr, q2]
  · rw [V]
    refine ⟨[_, _, _], rfl, ?_⟩
    simp only [Vs]
    exact ⟨_, _, rfl, (hr.env t0 _ h0).1 rfl, _, _, rfl, r1, _, _, rfl, r2, rfl⟩
theorem ret_TAA {fn : Func} {t0 : Nat} {l0 : LV} {t1 T1 o1 TB1 sz1 : Nat} {cs1 : List LV} {t2 T2 o2 TB2 sz2 : Nat} {cs2 : List LV} (h : fn.results = #[.tmp t0, .cell t1 T1, .cell t2 T2]) (f1 : AggF P T1 sz1) (f2 : AggF P T2 sz2) {m k : Nat} {Hi Ho : List (Nat × LO)} (hA : ∀ o, B.cx.A o ↔ o < m) (hmd : B.md = blks B.cx (hp Hi))
    (h0 : en E t0 = some (true, l0) := by rfl) (h1 : en E t1 = some (true, .ptr o1 0) := by rfl) (b1 : hp L o1 = some (.box TB1 cs1) := by rfl) (c1 : cs1.length = sz1 := by rfl) (h2 : en E t2 = some (true, .ptr o2 0) := by rfl) (b2 : hp L o2 = some (.box TB2 cs2) := by rfl) (c2 : cs2.length = sz2 := by rfl) (hn : m + k ≤ n := by first | omega | decide)
    (hK : KeepL (hp L) Ho := by repeat (first | exact trivial | refine ⟨rfl, ?_⟩))
    (hol : (Ho.all fun p => decide (p.1 < m + k) && p.2.lt (m + k)) = true := by first | rfl | simp [LO.lt, LV.lts, LV.lt, lts_sv]) (hout : LV.lt (m + k) (.tup [l0, .agg cs1, .agg cs2]) = true := by first | rfl | simp [LV.lts, LV.lt, lts_sv]) {e : Exit} (he : e = .normal ∨ e = .ret := by first | exact .inr rfl | exact .inl rfl) :
    ∀ cx a w, Rel B N [] (st E L n) cx a w → FnPost P fn B m (.tup [l0, .agg cs1, .agg cs2]) Hi Ho k e a w :=
  FnPost.fin (res_TAA h f1 f2 h0 h1 b1 c1 h2 b2 c2) hA hmd hn hK hol hout he
theorem res_TAB {fn : Func} {t0 : Nat} {l0 : LV} {t1 T1 o1 TB1 sz1 : Nat} {cs1 : List LV} {t2 T2 o2 TB2 off2 : Nat} {cs2 : List LV} {l2 : LV} (h : fn.results = #[.tmp t0, .cell t1 T1, .cell t2 T2]) (f1 : AggF P T1 sz1) (f2 : OneF P T2)
    (h0 : en E t0 = some (true, l0) := by rfl) (h1 : en E t1 = some (true, .ptr o1 0) := by rfl) (b1 : hp L o1 = some (.box TB1 cs1) := by rfl) (c1 : cs1.length = sz1 := by rfl) (h2 : en E t2 = some (true, .ptr o2 off2) := by rfl) (b2 : hp L o2 = some (.box TB2 cs2) := by rfl) (c2 : cs2[off2]? = some l2 := by rfl) :
    ResIs P B N D E L n fn (.tup [l0, .agg cs1, l2]) := by
  intro cx a w hr
  obtain ⟨v1, ad1, p1, q1, r1⟩ := boxLoadA f1 hr h1 b1 c1
  obtain ⟨v2, ad2, p2, q2, r2⟩ := boxLoad1 f2 hr h2 b2 c2
  refine ⟨.tuple #[a.tmps.getD t0 undef, v1, v2], ?_, ?_⟩
  · simp only [Array.getD_eq_getD_getElem?] at p1 p2
    simp [results, h, p1, asAddr, q1, p2, asAddr, q2]
  · rw [V]
    refine ⟨[_, _, _], rfl, ?_⟩
    simp only [Vs]
    exact ⟨_, _, rfl, (hr.env t0 _ h0).1 rfl, _, _, rfl, r1, _, _, rfl, r2, rfl⟩
theorem ret_TAB {fn : Func} {t0 : Nat} {l0 : LV} {t1 T1 o1 TB1 sz1 : Nat} {cs1 : List LV} {t2 T2 o2 TB2 off2 : Nat} {cs2 : List LV} {l2 : LV} (h : fn.results = #[.tmp t0, .cell t1 T1, .cell t2 T2]) (f1 : AggF P T1 sz1) (f2 : OneF P T2) {m k : Nat} {Hi Ho : List (Nat × LO)} (hA : ∀ o, B.cx.A o ↔ o < m) (hmd : B.md = blks B.cx (hp Hi))
    (h0 : en E t0 = some (true, l0) := by rfl) (h1 : en E t1 = some (true, .ptr o1 0) := by rfl) (b1 : hp L o1 = some (.box TB1 cs1) := by rfl) (c1 : cs1.length = sz1 := by rfl) (h2 : en E t2 = some (true, .ptr o2 off2) := by rfl) (b2 : hp L o2 = some (.box TB2 cs2) := by rfl) (c2 : cs2[off2]? = some l2 := by rfl) (hn : m + k ≤ n := by first | omega | decide)
    (hK : KeepL (hp L) Ho := by repeat (first | exact trivial | refine ⟨rfl, ?_⟩))
    (hol : (Ho.all fun p => decide (p.1 < m + k) && p.2.lt (m + k)) = true := by first | rfl | simp [LO.lt, LV.lts, LV.lt, lts_sv]) (hout : LV.lt (m + k) (.tup [l0, .agg cs1, l2]) = true := by first | rfl | simp [LV.lts, LV.lt, lts_sv]) {e : Exit} (he : e = .normal ∨ e = .ret := by first | exact .inr rfl | exact .inl rfl) :
    ∀ cx a w, Rel B N [] (st E L n) cx a w → FnPost P fn B m (.tup [l0, .agg cs1, l2]) Hi Ho k e a w :=
  FnPost.fin (res_TAB h f1 f2 h0 h1 b1 c1 h2 b2 c2) hA hmd hn hK hol hout he
theorem res_TBT {fn : Func} {t0 : Nat} {l0 : LV} {t1 T1 o1 TB1 off1 : Nat} {cs1 : List LV} {l1 : LV} {t2 : Nat} {l2 : LV} (h : fn.results = #[.tmp t0, .cell t1 T1, .tmp t2]) (f1 : OneF P T1)
    (h0 : en E t0 = some (true, l0) := by rfl) (h1 : en E t1 = some (true, .ptr o1 off1) := by rfl) (b1 : hp L o1 = some (.box TB1 cs1) := by rfl) (c1 : cs1[off1]? = some l1 := by rfl) (h2 : en E t2 = some (true, l2) := by rfl) :
    ResIs P B N D E L n fn (.tup [l0, l1, l2]) := by
  intro cx a w hr
  obtain ⟨v1, ad1, p1, q1, r1⟩ := boxLoad1 f1 hr h1 b1 c1
  refine ⟨.tuple #[a.tmps.getD t0 undef, v1, a.tmps.getD t2 undef], ?_, ?_⟩
  · simp only [Array.getD_eq_getD_getElem?] at p1
    simp [results, h, p1, asAddr, q1]
  · rw [V]
    refine ⟨[_, _, _], rfl, ?_⟩
    simp only [Vs]
    exact ⟨_, _, rfl, (hr.env t0 _ h0).1 rfl, _, _, rfl, r1, _, _, rfl, (hr.env t2 _ h2).1 rfl, rfl⟩
theorem ret_TBT {fn : Func} {t0 : Nat} {l0 : LV} {t1 T1 o1 TB1 off1 : Nat} {cs1 : List LV} {l1 : LV} {t2 : Nat} {l2 : LV} (h : fn.results = #[.tmp t0, .cell t1 T1, .tmp t2]) (f1 : OneF P T1) {m k : Nat} {Hi Ho : List (Nat × LO)} (hA : ∀ o, B.cx.A o ↔ o < m) (hmd : B.md = blks B.cx (hp Hi))
    (h0 : en E t0 = some (true, l0) := by rfl) (h1 : en E t1 = some (true, .ptr o1 off1) := by rfl) (b1 : hp L o1 = some (.box TB1 cs1) := by rfl) (c1 : cs1[off1]? = some l1 := by rfl) (h2 : en E t2 = some (true, l2) := by rfl) (hn : m + k ≤ n := by first | omega | decide)
    (hK : KeepL (hp L) Ho := by repeat (first | exact trivial | refine ⟨rfl, ?_⟩))
    (hol : (Ho.all fun p => decide (p.1 < m + k) && p.2.lt (m + k)) = true := by first | rfl | simp [LO.lt, LV.lts, LV.lt, lts_sv]) (hout : LV.lt (m + k) (.tup [l0, l1, l2]) = true := by first | rfl | simp [LV.lts, LV.lt, lts_sv]) {e : Exit} (he : e = .normal ∨ e = .ret := by first | exact .inr rfl | exact .inl rfl) :
    ∀ cx a w, Rel B N [] (st E L n) cx a w → FnPost P fn B m (.tup [l0, l1, l2]) Hi Ho k e a w :=
  FnPost.fin (res_TBT h f1 h0 h1 b1 c1 h2) hA hmd hn hK hol hout he
theorem res_TBA {fn : Func} {t0 : Nat} {l0 : LV} {t1 T1 o1 TB1 off1 : Nat} {cs1 : List LV} {l1 : LV} {t2 T2 o2 TB2 sz2 : Nat} {cs2 : List LV} (h : fn.results = #[.tmp t0, .cell t1 T1, .cell t2 T2]) (f1 : OneF P T1) (f2 : AggF P T2 sz2)
    (h0 : en E t0 = some (true, l0) := by rfl) (h1 : en E t1 = some (true, .ptr o1 off1) := by rfl) (b1 : hp L o1 = some (.box TB1 cs1) := by rfl) (c1 : cs1[off1]? = some l1 := by rfl) (h2 : en E t2 = some (true, .ptr o2 0) := by rfl) (b2 : hp L o2 = some (.box TB2 cs2) := by rfl) (c2 : cs2.length = sz2 := by rfl) :
    ResIs P B N D E L n fn (.tup [l0, l1, .agg cs2]) := by
  intro cx a w hr
  obtain ⟨v1, ad1, p1, q1, r1⟩ := boxLoad1 f1 hr h1 b1 c1
  obtain ⟨v2, ad2, p2, q2, r2⟩ := boxLoadA f2 hr h2 b2 c2
  refine ⟨.tuple #[a.tmps.getD t0 undef, v1, v2], ?_, ?_⟩
  · simp only [Array.getD_eq_getD_getElem?] at p1 p2
    simp [results, h, p1, asAddr, q1, p2, asAddr, q2]
  · rw [V]
    refine ⟨[_, _, _], rfl, ?_⟩
    simp only [Vs]
    exact ⟨_, _, rfl, (hr.env t0 _ h0).1 rfl, _, _, rfl, r1, _, _, rfl, r2, rfl⟩
theorem ret_TBA {fn : Func} {t0 : Nat} {l0 : LV} {t1 T1 o1 TB1 off1 : Nat} {cs1 : List LV} {l1 : LV} {t2 T2 o2 TB2 sz2 : Nat} {cs2 : List LV} (h : fn.results = #[.tmp t0, .cell t1 T1, .cell t2 T2]) (f1 : OneF P T1) (f2 : AggF P T2 sz2) {m k : Nat} {Hi Ho : List (Nat × LO)} (hA : ∀ o, B.cx.A o ↔ o < m) (hmd : B.md = blks B.cx (hp Hi))
    (h0 : en E t0 = some (true, l0) := by rfl) (h1 : en E t1 = some (true, .ptr o1 off1) := by rfl) (b1 : hp L o1 = some (.box TB1 cs1) := by rfl) (c1 : cs1[off1]? = some l1 := by rfl) (h2 : en E t2 = some (true, .ptr o2 0) := by rfl) (b2 : hp L o2 = some (.box TB2 cs2) := by rfl) (c2 : cs2.length = sz2 := by rfl) (hn : m + k ≤ n := by first | omega | decide)
    (hK : KeepL (hp L) Ho := by repeat (first | exact trivial | refine ⟨rfl, ?_⟩))
    (hol : (Ho.all fun p => decide (p.1 < m + k) && p.2.lt (m + k)) = true := by first | rfl | simp [LO.lt, LV.lts, LV.lt, lts_sv]) (hout : LV.lt (m + k) (.tup [l0, l1, .agg cs2]) = true := by first | rfl | simp [LV.lts, LV.lt, lts_sv]) {e : Exit} (he : e = .normal ∨ e = .ret := by first | exact .inr rfl | exact .inl rfl) :
    ∀ cx a w, Rel B N [] (st E L n) cx a w → FnPost P fn B m (.tup [l0, l1, .agg cs2]) Hi Ho k e a w :=
  FnPost.fin (res_TBA h f1 f2 h0 h1 b1 c1 h2 b2 c2) hA hmd hn hK hol hout he
theorem res_TBB {fn : Func} {t0 : Nat} {l0 : LV} {t1 T1 o1 TB1 off1 : Nat} {cs1 : List LV} {l1 : LV} {t2 T2 o2 TB2 off2 : Nat} {cs2 : List LV} {l2 : LV} (h : fn.results = #[.tmp t0, .cell t1 T1, .cell t2 T2]) (f1 : OneF P T1) (f2 : OneF P T2)
    (h0 : en E t0 = some (true, l0) := by rfl) (h1 : en E t1 = some (true, .ptr o1 off1) := by rfl) (b1 : hp L o1 = some (.box TB1 cs1) := by rfl) (c1 : cs1[off1]? = some l1 := by rfl) (h2 : en E t2 = some (true, .ptr o2 off2) := by rfl) (b2 : hp L o2 = some (.box TB2 cs2) := by rfl) (c2 : cs2[off2]? = some l2 := by rfl) :
    ResIs P B N D E L n fn (.tup [l0, l1, l2]) := by
  intro cx a w hr
  obtain ⟨v1, ad1, p1, q1, r1⟩ := boxLoad1 f1 hr h1 b1 c1
  obtain ⟨v2, ad2, p2, q2, r2⟩ := boxLoad1 f2 hr h2 b2 c2
  refine ⟨.tuple #[a.tmps.getD t0 undef, v1, v2], ?_, ?_⟩
  · simp only [Array.getD_eq_getD_getElem?] at p1 p2
    simp [results, h, p1, asAddr, q1, p2, asAddr, q2]
  · rw [V]
    refine ⟨[_, _, _], rfl, ?_⟩
    simp only [Vs]
    exact ⟨_, _, rfl, (hr.env t0 _ h0).1 rfl, _, _, rfl, r1, _, _, rfl, r2, rfl⟩
theorem ret_TBB {fn : Func} {t0 : Nat} {l0 : LV} {t1 T1 o1 TB1 off1 : Nat} {cs1 : List LV} {l1 : LV} {t2 T2 o2 TB2 off2 : Nat} {cs2 : List LV} {l2 : LV} (h : fn.results = #[.tmp t0, .cell t1 T1, .cell t2 T2]) (f1 : OneF P T1) (f2 : OneF P T2) {m k : Nat} {Hi Ho : List (Nat × LO)} (hA : ∀ o, B.cx.A o ↔ o < m) (hmd : B.md = blks B.cx (hp Hi))
    (h0 : en E t0 = some (true, l0) := by rfl) (h1 : en E t1 = some (true, .ptr o1 off1) := by rfl) (b1 : hp L o1 = some (.box TB1 cs1) := by rfl) (c1 : cs1[off1]? = some l1 := by rfl) (h2 : en E t2 = some (true, .ptr o2 off2) := by rfl) (b2 : hp L o2 = some (.box TB2 cs2) := by rfl) (c2 : cs2[off2]? = some l2 := by rfl) (hn : m + k ≤ n := by first | omega | decide)
    (hK : KeepL (hp L) Ho := by repeat (first | exact trivial | refine ⟨rfl, ?_⟩))
    (hol : (Ho.all fun p => decide (p.1 < m + k) && p.2.lt (m + k)) = true := by first | rfl | simp [LO.lt, LV.lts, LV.lt, lts_sv]) (hout : LV.lt (m + k) (.tup [l0, l1, l2]) = true := by first | rfl | simp [LV.lts, LV.lt, lts_sv]) {e : Exit} (he : e = .normal ∨ e = .ret := by first | exact .inr rfl | exact .inl rfl) :
    ∀ cx a w, Rel B N [] (st E L n) cx a w → FnPost P fn B m (.tup [l0, l1, l2]) Hi Ho k e a w :=
  FnPost.fin (res_TBB h f1 f2 h0 h1 b1 c1 h2 b2 c2) hA hmd hn hK hol hout he
theorem res_ATT {fn : Func} {t0 T0 o0 TB0 sz0 : Nat} {cs0 : List LV} {t1 : Nat} {l1 : LV} {t2 : Nat} {l2 : LV} (h : fn.results = #[.cell t0 T0, .tmp t1, .tmp t2]) (f0 : AggF P T0 sz0)
    (h0 : en E t0 = some (true, .ptr o0 0) := by rfl) (b0 : hp L o0 = some (.box TB0 cs0) := by rfl) (c0 : cs0.length = sz0 := by rfl) (h1 : en E t1 = some (true, l1) := by rfl) (h2 : en E t2 = some (true, l2) := by rfl) :
    ResIs P B N D E L n fn (.tup [.agg cs0, l1, l2]) := by
  intro cx a w hr
  obtain ⟨v0, ad0, p0, q0, r0⟩ := boxLoadA f0 hr h0 b0 c0
  refine ⟨.tuple #[v0, a.tmps.getD t1 undef, a.tmps.getD t2 undef], ?_, ?_⟩
  · simp only [Array.getD_eq_getD_getElem?] at p0
    simp [results, h, p0, asAddr, q0]
  · rw [V]
    refine ⟨[_, _, _], rfl, ?_⟩
    simp only [Vs]
    exact ⟨_, _, rfl, r0, _, _, rfl, (hr.env t1 _ h1).1 rfl, _, _, rfl, (hr.env t2 _ h2).1 rfl, rfl⟩
theorem ret_ATT {fn : Func} {t0 T0 o0 TB0 sz0 : Nat} {cs0 : List LV} {t1 : Nat} {l1 : LV} {t2 : Nat} {l2 : LV} (h : fn.results = #[.cell t0 T0, .tmp t1, .tmp t2]) (f0 : AggF P T0 sz0) {m k : Nat} {Hi Ho : List (Nat × LO)} (hA : ∀ o, B.cx.A o ↔ o < m) (hmd : B.md = blks B.cx (hp Hi))
    (h0 : en E t0 = some (true, .ptr o0 0) := by rfl) (b0 : hp L o0 = some (.box TB0 cs0) := by rfl) (c0 : cs0.length = sz0 := by rfl) (h1 : en E t1 = some (true, l1) := by rfl) (h2 : en E t2 = some (true, l2) := by rfl) (hn : m + k ≤ n := by first | omega | decide)
    (hK : KeepL (hp L) Ho := by repeat (first | exact trivial | refine ⟨rfl, ?_⟩))
    (hol : (Ho.all fun p => decide (p.1 < m + k) && p.2.lt (m + k)) = true := by first | rfl | simp [LO.lt, LV.lts, LV.lt, lts_sv]) (hout : LV.lt (m + k) (.tup [.agg cs0, l1, l2]) = true := by first | rfl | simp [LV.lts, LV.lt, lts_sv]) {e : Exit} (he : e = .normal ∨ e = .ret := by first | exact .inr rfl | exact .inl rfl) :
    ∀ cx a w, Rel B N [] (st E L n) cx a w → FnPost P fn B m (.tup [.agg cs0, l1, l2]) Hi Ho k e a w :=
  FnPost.fin (res_ATT h f0 h0 b0 c0 h1 h2) hA hmd hn hK hol hout he
theorem res_ATA {fn : Func} {t0 T0 o0 TB0 sz0 : Nat} {cs0 : List LV} {t1 : Nat} {l1 : LV} {t2 T2 o2 TB2 sz2 : Nat} {cs2 : List LV} (h : fn.results = #[.cell t0 T0, .tmp t1, .cell t2 T2]) (f0 : AggF P T0 sz0) (f2 : AggF P T2 sz2)
    (h0 : en E t0 = some (true, .ptr o0 0) := by rfl) (b0 : hp L o0 = some (.box TB0 cs0) := by rfl) (c0 : cs0.length = sz0 := by rfl) (h1 : en E t1 = some (true, l1) := by rfl) (h2 : en E t2 = some (true, .ptr o2 0) := by rfl) (b2 : hp L o2 = some (.box TB2 cs2) := by rfl) (c2 : cs2.length = sz2 := by rfl) :
    ResIs P B N D E L n fn (.tup [.agg cs0, l1, .agg cs2]) := by
  intro cx a w hr
  obtain ⟨v0, ad0, p0, q0, r0⟩ := boxLoadA f0 hr h0 b0 c0
  obtain ⟨v2, ad2, p2, q2, r2⟩ := boxLoadA f2 hr h2 b2 c2
  refine ⟨.tuple #[v0, a.tmps.getD t1 undef, v2], ?_, ?_⟩
  · simp only [Array.getD_eq_getD_getElem?] at p0 p2
    simp [results, h, p0, asAddr, q0, p2, asAddr, q2]
  · rw [V]
    refine ⟨[_, _, _], rfl, ?_⟩
    simp only [Vs]
    exact ⟨_, _, rfl, r0, _, _, rfl, (hr.env t1 _ h1).1 rfl, _, _, rfl, r2, rfl⟩
theorem ret_ATA {fn : Func} {t0 T0 o0 TB0 sz0 : Nat} {cs0 : List LV} {t1 : Nat} {l1 : LV} {t2 T2 o2 TB2 sz2 : Nat} {cs2 : List LV} (h : fn.results = #[.cell t0 T0, .tmp t1, .cell t2 T2]) (f0 : AggF P T0 sz0) (f2 : AggF P T2 sz2) {m k : Nat} {Hi Ho : List (Nat × LO)} (hA : ∀ o, B.cx.A o ↔ o < m) (hmd : B.md = blks B.cx (hp Hi))
    (h0 : en E t0 = some (true, .ptr o0 0) := by rfl) (b0 : hp L o0 = some (.box TB0 cs0) := by rfl) (c0 : cs0.length = sz0 := by rfl) (h1 : en E t1 = some (true, l1) := by rfl) (h2 : en E t2 = some (true, .ptr o2 0) := by rfl) (b2 : hp L o2 = some (.box TB2 cs2) := by rfl) (c2 : cs2.length = sz2 := by rfl) (hn : m + k ≤ n := by first | omega | decide)
    (hK : KeepL (hp L) Ho := by repeat (first | exact trivial | refine ⟨rfl, ?_⟩))
    (hol : (Ho.all fun p => decide (p.1 < m + k) && p.2.lt (m + k)) = true := by first | rfl | simp [LO.lt, LV.lts, LV.lt, lts_sv]) (hout : LV.lt (m + k) (.tup [.agg cs0, l1, .agg cs2]) = true := by first | rfl | simp [LV.lts, LV.lt, lts_sv]) {e : Exit} (he : e = .normal ∨ e = .ret := by first | exact .inr rfl | exact .inl rfl) :
    ∀ cx a w, Rel B N [] (st E L n) cx a w → FnPost P fn B m (.tup [.agg cs0, l1, .agg cs2]) Hi Ho k e a w :=
  FnPost.fin (res_ATA h f0 f2 h0 b0 c0 h1 h2 b2 c2) hA hmd hn hK hol hout he
theorem res_ATB {fn : Func} {t0 T0 o0 TB0 sz0 : Nat} {cs0 : List LV} {t1 : Nat} {l1 : LV} {t2 T2 o2 TB2 off2 : Nat} {cs2 : List LV} {l2 : LV} (h : fn.results = #[.cell t0 T0, .tmp t1, .cell t2 T2]) (f0 : AggF P T0 sz0) (f2 : OneF P T2)
    (h0 : en E t0 = some (true, .ptr o0 0) := by rfl) (b0 : hp L o0 = some (.box TB0 cs0) := by rfl) (c0 : cs0.length = sz0 := by rfl) (h1 : en E t1 = some (true, l1) := by rfl) (h2 : en E t2 = some (true, .ptr o2 off2) := by rfl) (b2 : hp L o2 = some (.box TB2 cs2) := by rfl) (c2 : cs2[off2]? = some l2 := by rfl) :
    ResIs P B N D E L n fn (.tup [.agg cs0, l1, l2]) := by
  intro cx a w hr
  obtain ⟨v0, ad0, p0, q0, r0⟩ := boxLoadA f0 hr h0 b0 c0
  obtain ⟨v2, ad2, p2, q2, r2⟩ := boxLoad1 f2 hr h2 b2 c2
  refine ⟨.tuple #[v0, a.tmps.getD t1 undef, v2], ?_, ?_⟩
  · simp only [Array.getD_eq_getD_getElem?] at p0 p2
    simp [results, h, p0, asAddr, q0, p2, asAddr, q2]
  · rw [V]
    refine ⟨[_, _, _], rfl, ?_⟩
    simp only [Vs]
    exact ⟨_, _, rfl, r0, _, _, rfl, (hr.env t1 _ h1).1 rfl, _, _, rfl, r2, rfl⟩
theorem ret_ATB {fn : Func} {t0 T0 o0 TB0 sz0 : Nat} {cs0 : List LV} {t1 : Nat} {l1 : LV} {t2 T2 o2 TB2 off2 : Nat} {cs2 : List LV} {l2 : LV} (h : fn.results = #[.cell t0 T0, .tmp t1, .cell t2 T2]) (f0 : AggF P T0 sz0) (f2 : OneF P T2) {m k : Nat} {Hi Ho : List (Nat × LO)} (hA : ∀ o, B.cx.A o ↔ o < m) (hmd : B.md = blks B.cx (hp Hi))
    (h0 : en E t0 = some (true, .ptr o0 0) := by rfl) (b0 : hp L o0 = some (.box TB0 cs0) := by rfl) (c0 : cs0.length = sz0 := by rfl) (h1 : en E t1 = some (true, l1) := by rfl) (h2 : en E t2 = some (true, .ptr o2 off2) := by rfl) (b2 : hp L o2 = some (.box TB2 cs2) := by rfl) (c2 : cs2[off2]? = some l2 := by rfl) (hn : m + k ≤ n := by first | omega | decide)
    (hK : KeepL (hp L) Ho := by repeat (first | exact trivial | refine ⟨rfl, ?_⟩))
    (hol : (Ho.all fun p => decide (p.1 < m + k) && p.2.lt (m + k)) = true := by first | rfl | simp [LO.lt, LV.lts, LV.lt, lts_sv]) (hout : LV.lt (m + k) (.tup [.agg cs0, l1, l2]) = true := by first | rfl | simp [LV.lts, LV.lt, lts_sv]) {e : Exit} (he : e = .normal ∨ e = .ret := by first | exact .inr rfl | exact .inl rfl) :
    ∀ cx a w, Rel B N [] (st E L n) cx a w → FnPost P fn B m (.tup [.agg cs0, l1, l2]) Hi Ho k e a w :=
  FnPost.fin (res_ATB h f0 f2 h0 b0 c0 h1 h2 b2 c2) hA hmd hn hK hol hout he
theorem res_AAT {fn : Func} {t0 T0 o0 TB0 sz0 : Nat} {cs0 : List LV} {t1 T1 o1 TB1 sz1 : Nat} {cs1 : List LV} {t2 : Nat} {l2 : LV} (h : fn.results = #[.cell t0 T0, .cell t1 T1, .tmp t2]) (f0 : AggF P T0 sz0) (f1 : AggF P T1 sz1)
    (h0 : en E t0 = some (true, .ptr o0 0) := by rfl) (b0 : hp L o0 = some (.box TB0 cs0) := by rfl) (c0 : cs0.length = sz0 := by rfl) (h1 : en E t1 = some (true, .ptr o1 0) := by rfl) (b1 : hp L o1 = some (.box TB1 cs1) := by rfl) (c1 : cs1.length = sz1 := by rfl) (h2 : en E t2 = some (true, l2) := by rfl) :
    ResIs P B N D E L n fn (.tup [.agg cs0, .agg cs1, l2]) := by
  intro cx a w hr
  obtain ⟨v0, ad0, p0, q0, r0⟩ := boxLoadA f0 hr h0 b0 c0
  obtain ⟨v1, ad1, p1, q1, r1⟩ := boxLoadA f1 hr h1 b1 c1
  refine ⟨.tuple #[v0, v1, a.tmps.getD t2 undef], ?_, ?_⟩
  · simp only [Array.getD_eq_getD_getElem?] at p0 p1
    simp [results, h, p0, asAddr, q0, p1, asAddr, q1]
  · rw [V]
    refine ⟨[_, _, _], rfl, ?_⟩
    simp only [Vs]
    exact ⟨_, _, rfl, r0, _, _, rfl, r1, _, _, rfl, (hr.env t2 _ h2).1 rfl, rfl⟩
theorem ret_AAT {fn : Func} {t0 T0 o0 TB0 sz0 : Nat} {cs0 : List LV} {t1 T1 o1 TB1 sz1 : Nat} {cs1 : List LV} {t2 : Nat} {l2 : LV} (h : fn.results = #[.cell t0 T0, .cell t1 T1, .tmp t2]) (f0 : AggF P T0 sz0) (f1 : AggF P T1 sz1) {m k : Nat} {Hi Ho : List (Nat × LO)} (hA : ∀ o, B.cx.A o ↔ o < m) (hmd : B.md = blks B.cx (hp Hi))
    (h0 : en E t0 = some (true, .ptr o0 0) := by rfl) (b0 : hp L o0 = some (.box TB0 cs0) := by rfl) (c0 : cs0.length = sz0 := by rfl) (h1 : en E t1 = some (true, .ptr o1 0) := by rfl) (b1 : hp L o1 = some (.box TB1 cs1) := by rfl) (c1 : cs1.length = sz1 := by rfl) (h2 : en E t2 = some (true, l2) := by rfl) (hn : m + k ≤ n := by first | omega | decide)
    (hK : KeepL (hp L) Ho := by repeat (first | exact trivial | refine ⟨rfl, ?_⟩))
    (hol : (Ho.all fun p => decide (p.1 < m + k) && p.2.lt (m + k)) = true := by first | rfl | simp [LO.lt, LV.lts, LV.lt, lts_sv]) (hout : LV.lt (m + k) (.tup [.agg cs0, .agg cs1, l2]) = true := by first | rfl | simp [LV.lts, LV.lt, lts_sv]) {e : Exit} (he : e = .normal ∨ e = .ret := by first | exact .inr rfl | exact .inl rfl) :
    ∀ cx a w, Rel B N [] (st E L n) cx a w → FnPost P fn B m (.tup [.agg cs0, .agg cs1, l2]) Hi Ho k e a w :=
  FnPost.fin (res_AAT h f0 f1 h0 b0 c0 h1 b1 c1 h2) hA hmd hn hK hol hout he
theorem res_ABT {fn : Func} {t0 T0 o0 TB0 sz0 : Nat} {cs0 : List LV} {t1 T1 o1 TB1 off1 : Nat} {cs1 : List LV} {l1 : LV} {t2 : Nat} {l2 : LV} (h : fn.results = #[.cell t0 T0, .cell t1 T1, .tmp t2]) (f0 : AggF P T0 sz0) (f1 : OneF P T1)
    (h0 : en E t0 = some (true, .ptr o0 0) := by rfl) (b0 : hp L o0 = some (.box TB0 cs0) := by rfl) (c0 : cs0.length = sz0 := by rfl) (h1 : en E t1 = some (true, .ptr o1 off1) := by rfl) (b1 : hp L o1 = some (.box TB1 cs1) := by rfl) (c1 : cs1[off1]? = some l1 := by rfl) (h2 : en E t2 = some (true, l2) := by rfl) :
    ResIs P B N D E L n fn (.tup [.agg cs0, l1, l2]) := by
  intro cx a w hr
  obtain ⟨v0, ad0, p0, q0, r0⟩ := boxLoadA f0 hr h0 b0 c0
  obtain ⟨v1, ad1, p1, q1, r1⟩ := boxLoad1 f1 hr h1 b1 c1
  refine ⟨.tuple #[v0, v1, a.tmps.getD t2 undef], ?_, ?_⟩
  · simp only [Array.getD_eq_getD_getElem?] at p0 p1
    simp [results, h, p0, asAddr, q0, p1, asAddr, q1]
  · rw [V]
    refine ⟨[_, _, _], rfl, ?_⟩
    simp only [Vs]
    exact ⟨_, _, rfl, r0, _, _, rfl, r1, _, _, rfl, (hr.env t2 _ h2).1 rfl, rfl⟩
theorem ret_ABT {fn : Func} {t0 T0 o0 TB0 sz0 : Nat} {cs0 : List LV} {t1 T1 o1 TB1 off1 : Nat} {cs1 : List LV} {l1 : LV} {t2 : Nat} {l2 : LV} (h : fn.results = #[.cell t0 T0, .cell t1 T1, .tmp t2]) (f0 : AggF P T0 sz0) (f1 : OneF P T1) {m k : Nat} {Hi Ho : List (Nat × LO)} (hA : ∀ o, B.cx.A o ↔ o < m) (hmd : B.md = blks B.cx (hp Hi))
    (h0 : en E t0 = some (true, .ptr o0 0) := by rfl) (b0 : hp L o0 = some (.box TB0 cs0) := by rfl) (c0 : cs0.length = sz0 := by rfl) (h1 : en E t1 = some (true, .ptr o1 off1) := by rfl) (b1 : hp L o1 = some (.box TB1 cs1) := by rfl) (c1 : cs1[off1]? = some l1 := by rfl) (h2 : en E t2 = some (true, l2) := by rfl) (hn : m + k ≤ n := by first | omega | decide)
    (hK : KeepL (hp L) Ho := by repeat (first | exact trivial | refine ⟨rfl, ?_⟩))
    (hol : (Ho.all fun p => decide (p.1 < m + k) && p.2.lt (m + k)) = true := by first | rfl | simp [LO.lt, LV.lts, LV.lt, lts_sv]) (hout : LV.lt (m + k) (.tup [.agg cs0, l1, l2]) = true := by first | rfl | simp [LV.lts, LV.lt, lts_sv]) {e : Exit} (he : e = .normal ∨ e = .ret := by first | exact .inr rfl | exact .inl rfl) :
    ∀ cx a w, Rel B N [] (st E L n) cx a w → FnPost P fn B m (.tup [.agg cs0, l1, l2]) Hi Ho k e a w :=
  FnPost.fin (res_ABT h f0 f1 h0 b0 c0 h1 b1 c1 h2) hA hmd hn hK hol hout he
theorem res_BTT {fn : Func} {t0 T0 o0 TB0 off0 : Nat} {cs0 : List LV} {l0 : LV} {t1 : Nat} {l1 : LV} {t2 : Nat} {l2 : LV} (h : fn.results = #[.cell t0 T0, .tmp t1, .tmp t2]) (f0 : OneF P T0)
    (h0 : en E t0 = some (true, .ptr o0 off0) := by rfl) (b0 : hp L o0 = some (.box TB0 cs0) := by rfl) (c0 : cs0[off0]? = some l0 := by rfl) (h1 : en E t1 = some (true, l1) := by rfl) (h2 : en E t2 = some (true, l2) := by rfl) :
    ResIs P B N D E L n fn (.tup [l0, l1, l2]) := by
  intro cx a w hr
  obtain ⟨v0, ad0, p0, q0, r0⟩ := boxLoad1 f0 hr h0 b0 c0
  refine ⟨.tuple #[v0, a.tmps.getD t1 undef, a.tmps.getD t2 undef], ?_, ?_⟩
  · simp only [Array.getD_eq_getD_getElem?] at p0
    simp [results, h, p0, asAddr, q0]
  · rw [V]
    refine ⟨[_, _, _], rfl, ?_⟩
    simp only [Vs]
    exact ⟨_, _, rfl, r0, _, _, rfl, (hr.env t1 _ h1).1 rfl, _, _, rfl, (hr.env t2 _ h2).1 rfl, rfl⟩
theorem ret_BTT {fn : Func} {t0 T0 o0 TB0 off0 : Nat} {cs0 : List LV} {l0 : LV} {t1 : Nat} {l1 : LV} {t2 : Nat} {l2 : LV} (h : fn.results = #[.cell t0 T0, .tmp t1, .tmp t2]) (f0 : OneF P T0) {m k : Nat} {Hi Ho : List (Nat × LO)} (hA : ∀ o, B.cx.A o ↔ o < m) (hmd : B.md = blks B.cx (hp Hi))
    (h0 : en E t0 = some (true, .ptr o0 off0) := by rfl) (b0 : hp L o0 = some (.box TB0 cs0) := by rfl) (c0 : cs0[off0]? = some l0 := by rfl) (h1 : en E t1 = some (true, l1) := by rfl) (h2 : en E t2 = some (true, l2) := by rfl) (hn : m + k ≤ n := by first | omega | decide)
    (hK : KeepL (hp L) Ho := by repeat (first | exact trivial | refine ⟨rfl, ?_⟩))
    (hol : (Ho.all fun p => decide (p.1 < m + k) && p.2.lt (m + k)) = true := by first | rfl | simp [LO.lt, LV.lts, LV.lt, lts_sv]) (hout : LV.lt (m + k) (.tup [l0, l1, l2]) = true := by first | rfl | simp [LV.lts, LV.lt, lts_sv]) {e : Exit} (he : e = .normal ∨ e = .ret := by first | exact .inr rfl | exact .inl rfl) :
    ∀ cx a w, Rel B N [] (st E L n) cx a w → FnPost P fn B m (.tup [l0, l1, l2]) Hi Ho k e a w :=
  FnPost.fin (res_BTT h f0 h0 b0 c0 h1 h2) hA hmd hn hK hol hout he
theorem res_BTA {fn : Func} {t0 T0 o0 TB0 off0 : Nat} {cs0 : List LV} {l0 : LV} {t1 : Nat} {l1 : LV} {t2 T2 o2 TB2 sz2 : Nat} {cs2 : List LV} (h : fn.results = #[.cell t0 T0, .tmp t1, .cell t2 T2]) (f0 : OneF P T0) (f2 : AggF P T2 sz2)
    (h0 : en E t0 = some (true, .ptr o0 off0) := by rfl) (b0 : hp L o0 = some (.box TB0 cs0) := by rfl) (c0 : cs0[off0]? = some l0 := by rfl) (h1 : en E t1 = some (true, l1) := by rfl) (h2 : en E t2 = some (true, .ptr o2 0) := by rfl) (b2 : hp L o2 = some (.box TB2 cs2) := by rfl) (c2 : cs2.length = sz2 := by rfl) :
    ResIs P B N D E L n fn (.tup [l0, l1, .agg cs2]) := by
  intro cx a w hr
  obtain ⟨v0, ad0, p0, q0, r0⟩ := boxLoad1 f0 hr h0 b0 c0
  obtain ⟨v2, ad2, p2, q2, r2⟩ := boxLoadA f2 hr h2 b2 c2
  refine ⟨.tuple #[v0, a.tmps.getD t1 undef, v2], ?_, ?_⟩
  · simp only [Array.getD_eq_getD_getElem?] at p0 p2
    simp [results, h, p0, asAddr, q0, p2, asAddr, q2]
  · rw [V]
    refine ⟨[_, _, _], rfl, ?_⟩
    simp only [Vs]
    exact ⟨_, _, rfl, r0, _, _, rfl, (hr.env t1 _ h1).1 rfl, _, _, rfl, r2, rfl⟩
theorem ret_BTA {fn : Func} {t0 T0 o0 TB0 off0 : Nat} {cs0 : List LV} {l0 : LV} {t1 : Nat} {l1 : LV} {t2 T2 o2 TB2 sz2 : Nat} {cs2 : List LV} (h : fn.results = #[.cell t0 T0, .tmp t1, .cell t2 T2]) (f0 : OneF P T0) (f2 : AggF P T2 sz2) {m k : Nat} {Hi Ho : List (Nat × LO)} (hA : ∀ o, B.cx.A o ↔ o < m) (hmd : B.md = blks B.cx (hp Hi))
    (h0 : en E t0 = some (true, .ptr o0 off0) := by rfl) (b0 : hp L o0 = some (.box TB0 cs0) := by rfl) (c0 : cs0[off0]? = some l0 := by rfl) (h1 : en E t1 = some (true, l1) := by rfl) (h2 : en E t2 = some (true, .ptr o2 0) := by rfl) (b2 : hp L o2 = some (.box TB2 cs2) := by rfl) (c2 : cs2.length = sz2 := by rfl) (hn : m + k ≤ n := by first | omega | decide)
    (hK : KeepL (hp L) Ho := by repeat (first | exact trivial | refine ⟨rfl, ?_⟩))
    (hol : (Ho.all fun p => decide (p.1 < m + k) && p.2.lt (m + k)) = true := by first | rfl | simp [LO.lt, LV.lts, LV.lt, lts_sv]) (hout : LV.lt (m + k) (.tup [l0, l1, .agg cs2]) = true := by first | rfl | simp [LV.lts, LV.lt, lts_sv]) {e : Exit} (he : e = .normal ∨ e = .ret := by first | exact .inr rfl | exact .inl rfl) :
    ∀ cx a w, Rel B N [] (st E L n) cx a w → FnPost P fn B m (.tup [l0, l1, .agg cs2]) Hi Ho k e a w :=
  FnPost.fin (res_BTA h f0 f2 h0 b0 c0 h1 h2 b2 c2) hA hmd hn hK hol hout he
theorem res_BTB {fn : Func} {t0 T0 o0 TB0 off0 : Nat} {cs0 : List LV} {l0 : LV} {t1 : Nat} {l1 : LV} {t2 T2 o2 TB2 off2 : Nat} {cs2 : List LV} {l2 : LV} (h : fn.results = #[.cell t0 T0, .tmp t1, .cell t2 T2]) (f0 : OneF P T0) (f2 : OneF P T2)
    (h0 : en E t0 = some (true, .ptr o0 off0) := by rfl) (b0 : hp L o0 = some (.box TB0 cs0) := by rfl) (c0 : cs0[off0]? = some l0 := by rfl) (h1 : en E t1 = some (true, l1) := by rfl) (h2 : en E t2 = some (true, .ptr o2 off2) := by rfl) (b2 : hp L o2 = some (.box TB2 cs2) := by rfl) (c2 : cs2[off2]? = some l2 := by rfl) :
    ResIs P B N D E L n fn (.tup [l0, l1, l2]) := by
  intro cx a w hr
  obtain ⟨v0, ad0, p0, q0, r0⟩ := boxLoad1 f0 hr h0 b0 c0
  obtain ⟨v2, ad2, p2, q2, r2⟩ := boxLoad1 f2 hr h2 b2 c2
  refine ⟨.tuple #[v0, a.tmps.getD t1 undef, v2], ?_, ?_⟩
  · simp only [Array.getD_eq_getD_getElem?] at p0 p2
    simp [results, h, p0, asAddr, q0, p2, asAddr, q2]
  · rw [V]
    refine ⟨[_, _, _], rfl, ?_⟩
    simp only [Vs]
    exact ⟨_, _, rfl, r0, _, _, rfl, (hr.env t1 _ h1).1 rfl, _, _, rfl, r2, rfl⟩
theorem ret_BTB {fn : Func} {t0 T0 o0 TB0 off0 : Nat} {cs0 : List LV} {l0 : LV} {t1 : Nat} {l1 : LV} {t2 T2 o2 TB2 off2 : Nat} {cs2 : List LV} {l2 : LV} (h : fn.results = #[.cell t0 T0, .tmp t1, .cell t2 T2]) (f0 : OneF P T0) (f2 : OneF P T2) {m k : Nat} {Hi Ho : List (Nat × LO)} (hA : ∀ o, B.cx.A o ↔ o < m) (hmd : B.md = blks B.cx (hp Hi))
    (h0 : en E t0 = some (true, .ptr o0 off0) := by rfl) (b0 : hp L o0 = some (.box TB0 cs0) := by rfl) (c0 : cs0[off0]? = some l0 := by rfl) (h1 : en E t1 = some (true, l1) := by rfl) (h2 : en E t2 = some (true, .ptr o2 off2) := by rfl) (b2 : hp L o2 = some (.box TB2 cs2) := by rfl) (c2 : cs2[off2]? = some l2 := by rfl) (hn : m + k ≤ n := by first | omega | decide)
    (hK : KeepL (hp L) Ho := by repeat (first | exact trivial | refine ⟨rfl, ?_⟩))
    (hol : (Ho.all fun p => decide (p.1 < m + k) && p.2.lt (m + k)) = true := by first | rfl | simp [LO.lt, LV.lts, LV.lt, lts_sv]) (hout : LV.lt (m + k) (.tup [l0, l1, l2]) = true := by first | rfl | simp [LV.lts, LV.lt, lts_sv]) {e : Exit} (he : e = .normal ∨ e = .ret := by first | exact .inr rfl | exact .inl rfl) :
    ∀ cx a w, Rel B N [] (st E L n) cx a w → FnPost P fn B m (.tup [l0, l1, l2]) Hi Ho k e a w :=
  FnPost.fin (res_BTB h f0 f2 h0 b0 c0 h1 h2 b2 c2) hA hmd hn hK hol hout he
theorem res_BAT {fn : Func} {t0 T0 o0 TB0 off0 : Nat} {cs0 : List LV} {l0 : LV} {t1 T1 o1 TB1 sz1 : Nat} {cs1 : List LV} {t2 : Nat} {l2 : LV} (h : fn.results = #[.cell t0 T0, .cell t1 T1, .tmp t2]) (f0 : OneF P T0) (f1 : AggF P T1 sz1)
    (h0 : en E t0 = some (true, .ptr o0 off0) := by rfl) (b0 : hp L o0 = some (.box TB0 cs0) := by rfl) (c0 : cs0[off0]? = some l0 := by rfl) (h1 : en E t1 = some (true, .ptr o1 0) := by rfl) (b1 : hp L o1 = some (.box TB1 cs1) := by rfl) (c1 : cs1.length = sz1 := by rfl) (h2 : en E t2 = some (true, l2) := by rfl) :
    ResIs P B N D E L n fn (.tup [l0, .agg cs1, l2]) := by
  intro cx a w hr
  obtain ⟨v0, ad0, p0, q0, r0⟩ := boxLoad1 f0 hr h0 b0 c0
  obtain ⟨v1, ad1, p1, q1, r1⟩ := boxLoadA f1 hr h1 b1 c1
  refine ⟨.tuple #[v0, v1, a.tmps.getD t2 undef], ?_, ?_⟩
  · simp only [Array.getD_eq_getD_getElem?] at p0 p1
    simp [results, h, p0, asAddr, q0, p1, asAddr, q1]
  · rw [V]
    refine ⟨[_, _, _], rfl, ?_⟩
    simp only [Vs]
    exact ⟨_, _, rfl, r0, _, _, rfl, r1, _, _, rfl, (hr.env t2 _ h2).1 rfl, rfl⟩
theorem ret_BAT {fn : Func} {t0 T0 o0 TB0 off0 : Nat} {cs0 : List LV} {l0 : LV} {t1 T1 o1 TB1 sz1 : Nat} {cs1 : List LV} {t2 : Nat} {l2 : LV} (h : fn.results = #[.cell t0 T0, .cell t1 T1, .tmp t2]) (f0 : OneF P T0) (f1 : AggF P T1 sz1) {m k : Nat} {Hi Ho : List (Nat × LO)} (hA : ∀ o, B.cx.A o ↔ o < m) (hmd : B.md = blks B.cx (hp Hi))
    (h0 : en E t0 = some (true, .ptr o0 off0) := by rfl) (b0 : hp L o0 = some (.box TB0 cs0) := by rfl) (c0 : cs0[off0]? = some l0 := by rfl) (h1 : en E t1 = some (true, .ptr o1 0) := by rfl) (b1 : hp L o1 = some (.box TB1 cs1) := by rfl) (c1 : cs1.length = sz1 := by rfl) (h2 : en E t2 = some (true, l2) := by rfl) (hn : m + k ≤ n := by first | omega | decide)
    (hK : KeepL (hp L) Ho := by repeat (first | exact trivial | refine ⟨rfl, ?_⟩))
    (hol : (Ho.all fun p => decide (p.1 < m + k) && p.2.lt (m + k)) = true := by first | rfl | simp [LO.lt, LV.lts, LV.lt, lts_sv]) (hout : LV.lt (m + k) (.tup [l0, .agg cs1, l2]) = true := by first | rfl | simp [LV.lts, LV.lt, lts_sv]) {e : Exit} (he : e = .normal ∨ e = .ret := by first | exact .inr rfl | exact .inl rfl) :
    ∀ cx a w, Rel B N [] (st E L n) cx a w → FnPost P fn B m (.tup [l0, .agg cs1, l2]) Hi Ho k e a w :=
  FnPost.fin (res_BAT h f0 f1 h0 b0 c0 h1 b1 c1 h2) hA hmd hn hK hol hout he
theorem res_BBT {fn : Func} {t0 T0 o0 TB0 off0 : Nat} {cs0 : List LV} {l0 : LV} {t1 T1 o1 TB1 off1 : Nat} {cs1 : List LV} {l1 : LV} {t2 : Nat} {l2 : LV} (h : fn.results = #[.cell t0 T0, .cell t1 T1, .tmp t2]) (f0 : OneF P T0) (f1 : OneF P T1)
    (h0 : en E t0 = some (true, .ptr o0 off0) := by rfl) (b0 : hp L o0 = some (.box TB0 cs0) := by rfl) (c0 : cs0[off0]? = some l0 := by rfl) (h1 : en E t1 = some (true, .ptr o1 off1) := by rfl) (b1 : hp L o1 = some (.box TB1 cs1) := by rfl) (c1 : cs1[off1]? = some l1 := by rfl) (h2 : en E t2 = some (true, l2) := by rfl) :
    ResIs P B N D E L n fn (.tup [l0, l1, l2]) := by
  intro cx a w hr
  obtain ⟨v0, ad0, p0, q0, r0⟩ := boxLoad1 f0 hr h0 b0 c0
  obtain ⟨v1, ad1, p1, q1, r1⟩ := boxLoad1 f1 hr h1 b1 c1
  refine ⟨.tuple #[v0, v1, a.tmps.getD t2 undef], ?_, ?_⟩
  · simp only [Array.getD_eq_getD_getElem?] at p0 p1
    simp [results, h, p0, asAddr, q0, p1, asAddr, q1]
  · rw [V]
    refine ⟨[_, _, _], rfl, ?_⟩
    simp only [Vs]
    exact ⟨_, _, rfl, r0, _, _, rfl, r1, _, _, rfl, (hr.env t2 _ h2).1 rfl, rfl⟩
theorem ret_BBT {fn : Func} {t0 T0 o0 TB0 off0 : Nat} {cs0 : List LV} {l0 : LV} {t1 T1 o1 TB1 off1 : Nat} {cs1 : List LV} {l1 : LV} {t2 : Nat} {l2 : LV} (h : fn.results = #[.cell t0 T0, .cell t1 T1, .tmp t2]) (f0 : OneF P T0) (f1 : OneF P T1) {m k : Nat} {Hi Ho : List (Nat × LO)} (hA : ∀ o, B.cx.A o ↔ o < m) (hmd : B.md = blks B.cx (hp Hi))
    (h0 : en E t0 = some (true, .ptr o0 off0) := by rfl) (b0 : hp L o0 = some (.box TB0 cs0) := by rfl) (c0 : cs0[off0]? = some l0 := by rfl) (h1 : en E t1 = some (true, .ptr o1 off1) := by rfl) (b1 : hp L o1 = some (.box TB1 cs1) := by rfl) (c1 : cs1[off1]? = some l1 := by rfl) (h2 : en E t2 = some (true, l2) := by rfl) (hn : m + k ≤ n := by first | omega | decide)
    (hK : KeepL (hp L) Ho := by repeat (first | exact trivial | refine ⟨rfl, ?_⟩))
    (hol : (Ho.all fun p => decide (p.1 < m + k) && p.2.lt (m + k)) = true := by first | rfl | simp [LO.lt, LV.lts, LV.lt, lts_sv]) (hout : LV.lt (m + k) (.tup [l0, l1, l2]) = true := by first | rfl | simp [LV.lts, LV.lt, lts_sv]) {e : Exit} (he : e = .normal ∨ e = .ret := by first | exact .inr rfl | exact .inl rfl) :
    ∀ cx a w, Rel B N [] (st E L n) cx a w → FnPost P fn B m (.tup [l0, l1, l2]) Hi Ho k e a w :=
  FnPost.fin (res_BBT h f0 f1 h0 b0 c0 h1 b1 c1 h2) hA hmd hn hK hol hout he
theorem res_TTTT {fn : Func} {t0 : Nat} {l0 : LV} {t1 : Nat} {l1 : LV} {t2 : Nat} {l2 : LV} {t3 : Nat} {l3 : LV} (h : fn.results = #[.tmp t0, .tmp t1, .tmp t2, .tmp t3]) 
    (h0 : en E t0 = some (true, l0) := by rfl) (h1 : en E t1 = some (true, l1) := by rfl) (h2 : en E t2 = some (true, l2) := by rfl) (h3 : en E t3 = some (true, l3) := by rfl) :
    ResIs P B N D E L n fn (.tup [l0, l1, l2, l3]) := by
  intro cx a w hr
  refine ⟨.tuple #[a.tmps.getD t0 undef, a.tmps.getD t1 undef, a.tmps.getD t2 undef, a.tmps.getD t3 undef], ?_, ?_⟩
  · simp [results, h]
  · simp only [V, Vs]
    exact ⟨[_, _, _, _], rfl, _, _, rfl, (hr.env t0 _ h0).1 rfl, _, _, rfl, (hr.env t1 _ h1).1 rfl, _, _, rfl, (hr.env t2 _ h2).1 rfl, _, _, rfl, (hr.env t3 _ h3).1 rfl, rfl⟩
theorem ret_TTTT {fn : Func} {t0 : Nat} {l0 : LV} {t1 : Nat} {l1 : LV} {t2 : Nat} {l2 : LV} {t3 : Nat} {l3 : LV} (h : fn.results = #[.tmp t0, .tmp t1, .tmp t2, .tmp t3])  {m k : Nat} {Hi Ho : List (Nat × LO)} (hA : ∀ o, B.cx.A o ↔ o < m) (hmd : B.md = blks B.cx (hp Hi))
    (h0 : en E t0 = some (true, l0) := by rfl) (h1 : en E t1 = some (true, l1) := by rfl) (h2 : en E t2 = some (true, l2) := by rfl) (h3 : en E t3 = some (true, l3) := by rfl) (hn : m + k ≤ n := by first | omega | decide)
    (hK : KeepL (hp L) Ho := by repeat (first | exact trivial | refine ⟨rfl, ?_⟩))
    (hol : (Ho.all fun p => decide (p.1 < m + k) && p.2.lt (m + k)) = true := by first | rfl | simp [LO.lt, LV.lts, LV.lt, lts_sv]) (hout : LV.lt (m + k) (.tup [l0, l1, l2, l3]) = true := by first | rfl | simp [LV.lts, LV.lt, lts_sv]) {e : Exit} (he : e = .normal ∨ e = .ret := by first | exact .inr rfl | exact .inl rfl) :
    ∀ cx a w, Rel B N [] (st E L n) cx a w → FnPost P fn B m (.tup [l0, l1, l2, l3]) Hi Ho k e a w :=
  FnPost.fin (res_TTTT h h0 h1 h2 h3) hA hmd hn hK hol hout he
theorem ret_0 {fn : Func} (h : fn.results = #[]) {m k : Nat} {Hi Ho : List (Nat × LO)} (hA : ∀ o, B.cx.A o ↔ o < m) (hmd : B.md = blks B.cx (hp Hi)) (hn : m + k ≤ n := by first | omega | decide)
    (hK : KeepL (hp L) Ho := by repeat (first | exact trivial | refine ⟨rfl, ?_⟩))
    (hol : (Ho.all fun p => decide (p.1 < m + k) && p.2.lt (m + k)) = true := by first | rfl | simp [LO.lt, LV.lts, LV.lt]) {e : Exit} (he : e = .normal ∨ e = .ret := by first | exact .inr rfl | exact .inl rfl) :
    ∀ cx a w, Rel B N [] (st E L n) cx a w → FnPost P fn B m (.tup []) Hi Ho k e a w := by
  intro cx a w hr
  refine FnPost.of2 hA hmd hn (fun o x hx => hK.get hx) hol rfl he hr (v := .tuple #[]) ?_ ?_
  · simp [results, h]
  · simp only [V, Vs]; exact ⟨[], rfl, rfl⟩
end

end Go.Proofs.YtnamkhifmankmaaDoor

/- Slices of closed elements that grow or are written; loops told by the slots that turn; calls that look at slices of one's own; equality of structs. -/
namespace Go.Proofs.YtnamkhifmankmaaDoor

theorem closed_flat (ys : List (List SV)) : (ys.map (List.map LV.sv)).flatten = ys.flatten.map LV.sv := by rw [List.map_flatten]

theorem ObjOk.rs_row {cx : Cx} {w : World} {o T sz : Nat} {ys : List (List SV)} (h : ObjOk cx w o (.rs T sz ys)) : ObjOk cx w o (.row T sz (ys.map (List.map LV.sv))) := by
  obtain ⟨h1, vs, h2, h3, h4⟩ := h
  refine ⟨fun e he => ?_, vs, by simpa using h2, by rw [closed_flat]; exact h3, h4⟩
  obtain ⟨e', he', rfl⟩ := List.mem_map.1 he
  simpa using h1 e' he'
theorem ObjOk.row_rs {cx : Cx} {w : World} {o T sz : Nat} {ys : List (List SV)} (h : ObjOk cx w o (.row T sz (ys.map (List.map LV.sv)))) : ObjOk cx w o (.rs T sz ys) := by
  obtain ⟨h1, vs, h2, h3, h4⟩ := h
  refine ⟨fun e he => ?_, vs, by simpa using h2, by rw [← closed_flat]; exact h3, h4⟩
  have := h1 _ (List.mem_map.2 ⟨e, he, rfl⟩)
  simpa using this

/-- an object told in another way -/
def tellH (o : Nat) (y : LO) (H : Hp) : Hp := fun q => if q = o then some y else H q
theorem HOk.tell {md : Nat → Prop} {n0 : Nat} {cx : Cx} {H : Hp} {w : World} {o : Nat} {x y : LO} (h : HOk md n0 cx H w) (ho : H o = some x) (hy : ObjOk cx w o x → ObjOk cx w o y) (hxy : y.isBx = x.isBx := by rfl) : HOk md n0 cx (tellH o y H) w := by
  have get : ∀ q z, tellH o y H q = some z → ∃ z', H q = some z' ∧ (q = o → z = y ∧ z' = x) ∧ (q ≠ o → z = z') := by
    intro q z hz
    unfold tellH at hz
    split at hz
    · rename_i hq; subst hq; cases hz; exact ⟨x, ho, fun _ => ⟨rfl, rfl⟩, fun hn => absurd rfl hn⟩
    · rename_i hq; exact ⟨z, hz, fun he => absurd he hq, fun _ => rfl⟩
  have hs : ∀ q z z' b, (q = o → z = y ∧ z' = x) ∧ (q ≠ o → z = z') → cx.has q z b → cx.has q z' b := by
    intro q z z' b h1 hb
    by_cases hq : q = o
    · obtain ⟨rfl, rfl⟩ := h1.1 hq; unfold Cx.has at hb ⊢; rw [← hxy]; exact hb
    · rw [← h1.2 hq]; exact hb
  refine ⟨fun q z hz => ?_, fun q z b hz hb => ?_, fun q q' z z' b hne hz hz' hb hb' => ?_, h.lim⟩
  · obtain ⟨z', h1, h2, h3⟩ := get q z hz
    obtain ⟨k1, k2⟩ := h.ok q z' h1
    refine ⟨k1, ?_⟩
    by_cases hq : q = o
    · obtain ⟨rfl, rfl⟩ := h2 hq; subst hq; exact hy k2
    · rw [h3 hq]; exact k2
  · obtain ⟨z', h1, h2⟩ := get q z hz; exact h.own q z' b h1 (hs q z z' b h2 hb)
  · obtain ⟨z1, h1, k1⟩ := get q z hz
    obtain ⟨z2, h2, k2⟩ := get q' z' hz'
    exact h.inj q q' z1 z2 b hne h1 h2 (hs q z z1 b k1 hb) (hs q' z' z2 b k2 hb')

theorem hp_one {o k : Nat} {x y : LO} (h : hp [(o, x)] k = some y) : k = o ∧ y = x := by
  simp only [hp, List.lookup_cons] at h
  split at h
  · rename_i hh; simp at hh; cases h; exact ⟨hh, rfl⟩
  · simp at h
theorem tellH_hp {o : Nat} {x y : LO} : tellH o y (hp [(o, x)]) = hp [(o, y)] := by
  funext k
  unfold tellH
  by_cases h : k = o
  · subst h; simp
  · rw [if_neg h]
    have : (k == o) = false := by simp [h]
    simp [hp, List.lookup_cons, this]
theorem blks_sub {cx : Cx} {o : Nat} {x : LO} (y : LO) {b : Nat} (hxy : y.isBx = x.isBx) (h : blks cx (hp [(o, x)]) b) : blks cx (hp [(o, y)]) b := by
  obtain ⟨k, z, hz, hb⟩ := h
  obtain ⟨rfl, rfl⟩ := hp_one hz
  refine ⟨k, y, by simp, ?_⟩
  unfold Cx.has at hb ⊢; rw [hxy]; exact hb
theorem blks_one {cx : Cx} {o : Nat} {x y : LO} (hxy : y.isBx = x.isBx) : blks cx (hp [(o, x)]) = blks cx (hp [(o, y)]) := by
  funext b
  exact propext ⟨blks_sub y hxy, blks_sub x hxy.symm⟩
theorem Tr.tell {cx cx' : Cx} {w w' : World} {o o' : Nat} {x x' y y' : LO} {new : Nat → Prop} (t : Tr cx w (hp [(o, x)]) cx' w' (hp [(o', y)]) new) (hy : ObjOk cx' w' o' y → ObjOk cx' w' o' y')
    (hxx : x'.isBx = x.isBx := by rfl) (hyy : y'.isBx = y.isBx := by rfl) : Tr cx w (hp [(o, x')]) cx' w' (hp [(o', y')]) new := by
  have h1 : blks cx (hp [(o, x')]) = blks cx (hp [(o, x)]) := blks_one hxx.symm
  refine ⟨t.le, t.A, by rw [h1]; exact t.grow, ?_, fun q hq hn => t.inn q hq ?_⟩
  · rw [h1]
    have h2 := t.heap.tell (o := o') (by simp) hy hyy
    rw [tellH_hp] at h2
    exact h2
  · simp only [hp, List.lookup_cons, List.lookup_nil] at hn ⊢
    cases hqo : (q == o) with
    | true => rw [hqo] at hn; cases hn
    | false => rfl

section
variable {P : Program} {r : Option Nat} {N : Nat} {D : List Nat} {B : Base} {Ψ : Exit → Act → World → Prop} {todo : List Item}
variable {E : List (Nat × Ent)} {L : List (Nat × LO)} {n : Nat}

theorem hp_tell (o : Nat) (y : LO) (L : List (Nat × LO)) : hp ((o, y) :: delL o L) = tellH o y (hp L) := by
  funext k
  unfold tellH
  by_cases h : k = o
  · subst h; simp
  · rw [if_neg h]
    have h2 : (k == o) = false := by simp [h]
    simp only [hp, List.lookup_cons, h2, delL]
    rw [lookup_filter (fun k => !(k == o))]
    simp [h2]
theorem delL_hp (o : Nat) (L : List (Nat × LO)) : hp (delL o L) = fun k => if k = o then none else hp L k := by
  funext k
  simp only [delL, hp]
  rw [lookup_filter (fun k => !(k == o))]
  by_cases h : k = o <;> simp [h]

theorem delL_at (o : Nat) (L : List (Nat × LO)) (k : Nat) : hp (delL o L) k = if k = o then none else hp L k := congrFun (delL_hp o L) k
theorem LGo.tell (o : Nat) {x : LO} (y : LO) (hb : hp L o = some x) (hy : ∀ cx w, ObjOk cx w o x → ObjOk cx w o y) (h : LGo P r N D B Ψ todo (st E ((o, y) :: delL o L) n)) (hxy : y.isBx = x.isBx := by rfl) : LGo P r N D B Ψ todo (st E L n) := by
  refine LGo.conv (S' := st E ((o, y) :: delL o L) n) (fun cx a w hr => ⟨cx, hr.grow, hr.le, hr.hA, ?_, hr.size, hr.env, hr.df, hr.dA⟩) h
  show HOk _ _ cx (hp ((o, y) :: delL o L)) w
  rw [hp_tell]
  exact hr.heap.tell hb (hy cx w) hxy
theorem LGo.toRs (o : Nat) {T sz : Nat} {xs : List (List LV)} (ys : List (List SV)) (hb : hp L o = some (.row T sz xs) := by rfl) (hy : xs = ys.map (List.map LV.sv) := by rfl)
    (h : LGo P r N D B Ψ todo (st E ((o, .rs T sz ys) :: delL o L) n)) : LGo P r N D B Ψ todo (st E L n) :=
  LGo.tell o _ hb (fun cx w hx => ObjOk.row_rs (by rw [← hy]; exact hx)) h

/-- the nil slice, as a slice of one's own -/
theorem LGo.nilRs (t T sz : Nat) (ht : en E t = some (true, .v (.slice none 0 0)) := by rfl)
    (h : LGo P r N D B Ψ todo (st ((t, (true, .ref n)) :: E) ((n, .rs T sz []) :: L) (n + 1))) : LGo P r N D B Ψ todo (st E L n) := by
  refine LGo.nilRow t T sz ht (LGo.tell n (.rs T sz []) (x := .row T sz []) (by simp) (fun cx w hx => ObjOk.row_rs (by simpa using hx)) ?_)
  have e : st ((t, (true, LV.ref n)) :: E) ((n, LO.rs T sz []) :: delL n ((n, .row T sz []) :: L)) (n + 1) = st ((t, (true, .ref n)) :: E) ((n, .rs T sz []) :: L) (n + 1) := by
    simp only [st]
    congr 1
    rw [hp_tell]
    funext k
    unfold tellH
    by_cases hk : k = n
    · subst hk; simp
    · have h2 : (k == n) = false := by simp [hk]
      simp [hp, List.lookup_cons, h2, hk]
  rw [e]; exact h

theorem Rel.tell (o : Nat) {x : LO} (y : LO) (hb : hp L o = some x) (hy : ∀ cx w, ObjOk cx w o x → ObjOk cx w o y) {cx : Cx} {a : Act} {w : World} (hr : Rel B N D (st E L n) cx a w) (hxy : y.isBx = x.isBx := by rfl) : Rel B N D (st E ((o, y) :: delL o L) n) cx a w := by
  refine ⟨hr.grow, hr.le, hr.hA, ?_, hr.size, hr.env, hr.df, hr.dA⟩
  show HOk _ _ cx (hp ((o, y) :: delL o L)) w
  rw [hp_tell]
  exact hr.heap.tell hb (hy cx w) hxy
theorem RelTo.frz (o : Nat) {T sz : Nat} {ys : List (List SV)} {Q : Act → World → Prop} (hb : hp L o = some (.rs T sz ys) := by rfl)
    (h : ∀ cx a w, Rel B N D (st (frzE o (.sl sz ys) E) (delL o L) n) cx a w → Q a w) : ∀ cx a w, Rel B N D (st E L n) cx a w → Q a w := by
  intro cx a w hr
  have e : st (frzE o (.sl sz ys) E) (delL o ((o, LO.row T sz (ys.map (List.map LV.sv))) :: delL o L)) n = st (frzE o (.sl sz ys) E) (delL o L) n := by
    simp only [st]
    congr 1
    rw [delL_hp, delL_hp, hp_tell]
    funext k
    unfold tellH
    by_cases hk : k = o <;> simp [hk]
  obtain ⟨cx', hr'⟩ := Rel.freeze o (T := T) (sz := sz) (xs := ys.map (List.map LV.sv)) (ys := ys) (by simp) rfl (hr.tell o (.row T sz (ys.map (List.map LV.sv))) hb (fun cx w hx => hx.rs_row))
  rw [e] at hr'
  exact h cx' a w hr'
/-- a slice that is written no more -/
theorem LGo.frz (o : Nat) {T sz : Nat} {ys : List (List SV)} (hb : hp L o = some (.rs T sz ys) := by rfl)
    (h : LGo P r N D B Ψ todo (st (frzE o (.sl sz ys) E) (delL o L) n)) : LGo P r N D B Ψ todo (st E L n) := by
  refine LGo.tell o (.row T sz (ys.map (List.map LV.sv))) hb (fun cx w hx => hx.rs_row) (LGo.freeze o (T := T) (sz := sz) (xs := ys.map (List.map LV.sv)) (ys := ys) (by simp) rfl ?_)
  have e : st (frzE o (.sl sz ys) E) (delL o ((o, LO.row T sz (ys.map (List.map LV.sv))) :: delL o L)) n = st (frzE o (.sl sz ys) E) (delL o L) n := by
    simp only [st]
    congr 1
    rw [delL_hp, delL_hp, hp_tell]
    funext k
    unfold tellH
    by_cases hk : k = o <;> simp [hk]
  rw [e]; exact h

/-- a loop: x of σ tells the slots that turn; Er: the slots that stay -/
theorem LGo.loopG {σ : Type} (Q : σ → Prop) (EE : σ → List (Nat × Ent)) (LL : σ → List (Nat × LO)) (μ : σ → Nat) (x0 : σ) (Er : List (Nat × Ent)) (h0 : Q x0)
    (hE : KeepE (en E) (EE x0)) (hEr : KeepE (en E) Er) (hL : KeepL (hp L) (LL x0))
    (round : ∀ x, Q x → (∀ y, Q y → μ y < μ x → LGo P r N D B Ψ todo (st (EE y ++ Er) (LL y) n)) → LGo P r N D B Ψ todo (st (EE x ++ Er) (LL x) n)) :
    LGo P r N D B Ψ todo (st E L n) := by
  have happ : ∀ (l l' : List (Nat × Ent)), KeepE (en E) l → KeepE (en E) l' → KeepE (en E) (l ++ l') := by
    intro l
    induction l with
    | nil => intro l' _ h; exact h
    | cons p l ih => intro l' h h'; exact ⟨h.1, ih l' h.2 h'⟩
  exact LGo.keep (EE x0 ++ Er) (LL x0) (happ _ _ hE hEr) hL (LGo.loopK Q (fun x => EE x ++ Er) LL (fun _ => n) μ x0 h0 round)

end

theorem SrcOk.rs {P : Program} {tx e' sz T o : Nat} {ys : List (List SV)} (hk : P.underlying tx = some (.slice e')) (hs : ∀ e ∈ ys, e.length = sz) : SrcOk P tx sz (.ref o) [(o, .rs T sz ys)] (ys.map (List.map LV.sv)) := by
  have h := SrcOk.row (P := P) (T := T) (o := o) (ys := ys.map (List.map LV.sv)) hk (sz := sz) (fun e he => by
    obtain ⟨e1, he1, rfl⟩ := List.mem_map.1 he; simpa using hs e1 he1)
  refine ⟨h.1, fun md n0 cx H w v hok hrd hv => ?_⟩
  have ho := hrd o (.rs T sz ys) (by simp)
  refine h.2 md n0 cx (tellH o (.row T sz (ys.map (List.map LV.sv))) H) w v (hok.tell ho ObjOk.rs_row) (fun k x hk' => ?_) hv
  obtain ⟨rfl, rfl⟩ := hp_one hk'
  simp [tellH]
abbrev LV.t (l : List UInt8) : LV := .sv (.val (.string ⟨l.toArray⟩))
theorem SrcOk.strT {P : Program} {tx : Nat} {l : List UInt8} (hk : P.underlying tx = some .string) : SrcOk P tx 1 (.t l) [] ((bytesC l).map (List.map LV.sv)) := by
  have := SrcOk.str (P := P) (s := ⟨l.toArray⟩) hk
  rw [bytesL_eq]; simpa using this

section
variable {P : Program} {r : Option Nat} {N : Nat} {D : List Nat} {B : Base} {all : Array Oper} {K : List (Nat × Ct) → St → Prop}
variable {i : Nat} {ops : List Oper} {tr : List (Nat × Ct)} {E : List (Nat × Ent)} {L : List (Nat × LO)} {n : Nat} {g : Bool} {gn : List (Nat × Ent)}
variable {d ty : Nat} {pos : String} {aft : Array Edge} {gd : Option (Nat × Bool)}

/-- append, closed elements -/
theorem R.appendS {t tx e sz : Nat} (hF : AppF P t e sz) {x y : Operand} {o : Nat} {xs ys : List (List SV)} {lv : LV} {rd : List (Nat × LO)}
    (ho : all[i]? = some ⟨some d, .call { callee := .builtin .append, args := #[x, y], argTypes := #[t, tx] }, ty, pos, aft, none⟩ := by rfl)
    (hx : lvOf (en E) x = some (true, .ref o) := by rfl) (hy : lvOf (en E) y = some (true, lv) := by rfl) (hb : hp L o = some (.rs e sz xs) := by rfl)
    (hs : SrcOk P tx sz lv rd (ys.map (List.map LV.sv))) (hrd : ∀ k x, hp rd k = some x → hp L k = some x := by first | exact noHo | exact oneL rfl) (h0 : 0 < sz := by decide) (hlen : (xs.length + ys.length) * sz ≤ 4398046511104)
    (h : Reg P r N D B all (i + 1) ops ((i, ⟨needOf [x, y] [(true, .ref o), (true, lv)], some d, (true, .ref n), rd, [(o, .rs e sz xs)], [(n, .rs e sz (xs ++ ys))], [n]⟩) :: tr) (st ((d, (true, .ref n)) :: E) ((n, .rs e sz (xs ++ ys)) :: delL o L) (n + 1)) K) :
    Reg P r N D B all i (⟨some d, .call { callee := .builtin .append, args := #[x, y], argTypes := #[t, tx] }, ty, pos, aft, none⟩ :: ops) tr (st E L n) K := by
  refine Reg.gen (m := 1) (es := [(true, .ref o), (true, lv)]) (rd := rd) (Hi := [(o, .rs e sz xs)]) (Ho := [(n, .rs e sz (xs ++ ys))]) (out := .ref n) ho gN ⟨_, _, rfl, hx, _, _, rfl, hy, rfl⟩ hrd (oneL hb) ?_ ?_
  · refine OpC.of_run (by simp) (by simp) fun md n0 cx H ρ w hok hrd' hHi hnew hv => ?_
    have hop : (Oper.mk (some d) (.call { callee := .builtin .append, args := #[x, y], argTypes := #[t, tx] }) ty pos aft none).op.operands.toList = [x, y] := rfl
    rw [hop] at hv
    obtain ⟨v1, v2⟩ := Vs.two hv
    simp only [entLV] at v1 v2
    obtain ⟨news, hsrc, hnv⟩ := hs.2 md n0 cx H w _ hok hrd' v2
    simp only [V] at v1
    have hob := hHi o (.rs e sz xs) (by simp)
    obtain ⟨v, w', cx', h1, h2, h3⟩ := run_append (o' := n) (xs := xs.map (List.map LV.sv)) (ys := ys.map (List.map LV.sv)) hF h0 (hok.tell hob ObjOk.rs_row) (o := o) (by simp [tellH]) (hnew n (by simp)) hsrc hs.1 hnv (by simpa using hlen) ty
    refine ⟨_, v, w', cx', ?_, .inl rfl, h2.tell (fun hx => ObjOk.row_rs (by simpa using hx)), h3⟩
    have hx' : ρ x = cx.loc o := v1.2.1
    simp [execOp, resolve, invoke, builtin, hx', h1]
  · have e1 : st (putL (some d) (true, .ref n) E) (updL L [(o, .rs e sz xs)] [(n, .rs e sz (xs ++ ys))]) (n + 1) = st ((d, (true, .ref n)) :: E) ((n, .rs e sz (xs ++ ys)) :: delL o L) (n + 1) := by
      simp only [st, updL_app, putL]
    rw [e1]; exact h

/-- the length of a slice of one's own -/
theorem R.lenRs {T : Nat} (hF : SliceT P T) {x : Operand} {gx : Bool} {o e sz : Nat} {xs : List (List SV)}
    (ho : all[i]? = some ⟨some d, .call { callee := .builtin .len, args := #[x], argTypes := #[T] }, ty, pos, aft, gd⟩ := by rfl) (hg : GuardOk (en E) all gd g gn := by first | exact gN | exact gS rfl rfl)
    (hx : lvOf (en E) x = some (gx, .ref o) := by rfl) (hgx : g = true → gx = true := by first | exact fun _ => rfl | exact id) (hb : hp L o = some (.rs e sz xs) := by rfl)
    (h : Reg P r N D B all (i + 1) ops ((i, Ct.p gn [x] [(gx, .ref o)] (some d) (g, .i xs.length) [(o, .rs e sz xs)]) :: tr) (st ((d, (g, .i xs.length)) :: E) L n) K) :
    Reg P r N D B all i (⟨some d, .call { callee := .builtin .len, args := #[x], argTypes := #[T] }, ty, pos, aft, gd⟩ :: ops) tr (st E L n) K :=
  Reg.one rfl (fun h => by
    rw [entLV_true h hgx]
    refine OpC.of_pure1 (x := x) rfl (by simp) fun md n0 cx H ρ w hok hrd hvv => ?_
    have hv := hvv
    obtain ⟨el, hT⟩ := hF
    simp only [V] at hv
    obtain ⟨_, hv1, _⟩ := hv
    obtain ⟨_, _, vs, hown, _⟩ := hok.ok o _ (hrd o (.rs e sz xs) (by simp))
    refine ⟨.int .i64 xs.length, ?_, V.mkval⟩
    rcases hown.2 with ⟨e1, e2⟩ | ⟨gb, cap, cur, e1, _⟩
    · rw [e1] at hv1
      simp [execOp, resolve, invoke, builtin, Builtin.len_, hv1, hT w, goInt, e2]
    · rw [e1] at hv1
      simp [execOp, resolve, invoke, builtin, Builtin.len_, hv1, hT w, goInt]) ho hg hx (oneL hb) h

/-- the place of an element of a slice of one's own -/
theorem R.indexRs {T sz : Nat} (hF : IndexF P T sz) {x y : Operand} {gx gy : Bool} {o e : Nat} {xs : List (List SV)} {k : IntKind} {j : Int}
    (ho : all[i]? = some ⟨some d, .indexAddr T x y, ty, pos, aft, gd⟩ := by rfl) (hg : GuardOk (en E) all gd g gn := by first | exact gN | exact gS rfl rfl)
    (hx : lvOf (en E) x = some (gx, .ref o) := by rfl) (hy : lvOf (en E) y = some (gy, .v (.int k j)) := by rfl)
    (hgx : g = true → gx = true := by first | exact fun _ => rfl | exact id) (hgy : g = true → gy = true := by first | exact fun _ => rfl | exact id) (hb : hp L o = some (.rs e sz xs) := by rfl)
    (hj : g = true → 0 ≤ j ∧ j < xs.length)
    (h : Reg P r N D B all (i + 1) ops ((i, Ct.p gn [x, y] [(gx, .ref o), (gy, .v (.int k j))] (some d) (g, .ptr o (j.toNat * sz)) [(o, .rs e sz xs)]) :: tr) (st ((d, (g, .ptr o (j.toNat * sz))) :: E) L n) K) :
    Reg P r N D B all i (⟨some d, .indexAddr T x y, ty, pos, aft, gd⟩ :: ops) tr (st E L n) K :=
  Reg.two rfl (fun h => by
    rw [entLV_true h hgx, entLV_true h hgy]
    refine OpC.of_pure2 (x := x) (y := y) rfl (by simp) fun md n0 cx H ρ w hok hrd v1 v2 => ?_
    obtain ⟨h0, hlt⟩ := hj h
    simp only [V] at v1
    obtain ⟨hA, hv1, _⟩ := v1
    obtain ⟨_, _, vs, hown, _⟩ := hok.ok o _ (hrd o (.rs e sz xs) (by simp))
    rcases hown.2 with ⟨e1, e2⟩ | ⟨gb, cap, cur, e1, _⟩
    · omega
    · rw [e1] at hv1
      refine ⟨.pointer (some ⟨gb, 0 + j.toNat * sz, none⟩), by simp only [execOp, hv1, v2.val]; simp [hF gb 0 xs.length cap k j w h0 hlt], ?_⟩
      simp only [V]
      exact ⟨hA, gb, by rw [e1]; rfl, by rw [Nat.zero_add]⟩) ho hg hx hy (oneL hb) h

theorem rs_cell {cx : Cx} {w : World} {o e sz : Nat} {xs : List (List SV)} (h : ObjOk cx w o (.rs e sz xs)) {j f : Nat} {x : List SV} {c : SV} (hj : xs[j]? = some x) (hf : x[f]? = some c) :
    ∃ b v, bk (cx.loc o) = some b ∧ w.cell? ⟨b, j * sz + f, none⟩ = some v ∧ VS cx.pr w c v := by
  obtain ⟨hsz, vs, hown, hvs, _⟩ := h
  have hjl := (List.getElem?_eq_some_iff.1 hj).1
  have hxl : x.length = sz := hsz x (List.mem_of_getElem? hj)
  have hfl : f < sz := by rw [← hxl]; exact (List.getElem?_eq_some_iff.1 hf).1
  have hfla : ∀ (xs : List (List SV)) (j : Nat), (∀ e ∈ xs, e.length = sz) → xs[j]? = some x → xs.flatten[j * sz + f]? = some c := by
    intro xs
    induction xs with
    | nil => intro j _ h; simp at h
    | cons y xs ih =>
      intro j hs h
      have hyl := hs y (by simp)
      cases j with
      | zero =>
        simp at h; subst h
        rw [Nat.zero_mul, Nat.zero_add, List.flatten_cons, List.getElem?_append_left (by omega)]; exact hf
      | succ j =>
        have := ih j (fun e he => hs e (by simp [he])) (by simpa using h)
        rw [List.flatten_cons, List.getElem?_append_right (by rw [hyl, Nat.succ_mul]; omega), hyl, show (j + 1) * sz + f - sz = j * sz + f from by rw [Nat.succ_mul]; omega]
        exact this
  have hflat := hfla xs j hsz hj
  have hc : (xs.flatten.map LV.sv)[j * sz + f]? = some (.sv c) := by rw [List.getElem?_map, hflat]; rfl
  obtain ⟨v, hv, hV⟩ := hvs.get hc
  rcases hown.2 with ⟨e1, e2⟩ | ⟨gb, cap, cur, e1, _, e2, e3, e4, e5, e6⟩
  · omega
  · refine ⟨gb, v, by rw [e1]; rfl, ?_, by simpa [V] using hV⟩
    rw [← e6, List.getElem?_take] at hv
    split at hv
    · simp [World.cell?, e2]; simpa using hv
    · cases hv

/-- a cell of an element of a slice of one's own -/
theorem R.loadRs1 {T : Nat} (hF : OneF P T) {x : Operand} {gx : Bool} {o off e sz : Nat} {xs : List (List SV)} {ev : List SV} {c : SV} (j f : Nat)
    (ho : all[i]? = some ⟨some d, .load T x, ty, pos, aft, gd⟩ := by rfl) (hg : GuardOk (en E) all gd g gn := by first | exact gN | exact gS rfl rfl)
    (hx : lvOf (en E) x = some (gx, .ptr o off) := by rfl) (hgx : g = true → gx = true := by first | exact fun _ => rfl | exact id) (hb : hp L o = some (.rs e sz xs) := by rfl)
    (hj : g = true → xs[j]? = some ev ∧ ev[f]? = some c) (hoff : off = j * sz + f := by omega)
    (h : Reg P r N D B all (i + 1) ops ((i, Ct.p gn [x] [(gx, .ptr o off)] (some d) (g, .sv c) [(o, .rs e sz xs)]) :: tr) (st ((d, (g, .sv c)) :: E) L n) K) :
    Reg P r N D B all i (⟨some d, .load T x, ty, pos, aft, gd⟩ :: ops) tr (st E L n) K :=
  Reg.one rfl (fun h => by
    rw [entLV_true h hgx]
    refine OpC.of_pure1 (x := x) rfl (by simp) fun md n0 cx H ρ w hok hrd hvv => ?_
    obtain ⟨h1, h2⟩ := hj h
    simp only [V] at hvv
    obtain ⟨hA, b, hbk, he⟩ := hvv
    obtain ⟨b', v, k1, k2, k3⟩ := rs_cell (hok.ok o _ (hrd o (.rs e sz xs) (by simp))).2 h1 h2
    rw [k1] at hbk; cases hbk
    refine ⟨v, ?_, by simpa only [V] using k3⟩
    rw [← hoff] at k2
    simp [execOp, he, Instr.loadAt, Instr.sureAddr, loadVar, hF.1 w, k2]) ho hg hx (oneL hb) h

/-- a whole element of a slice of one's own -/
theorem R.loadRsN {T sz : Nat} (hF : AggF P T sz) {x : Operand} {gx : Bool} {o off e : Nat} {xs : List (List SV)} {ev : List SV} (j : Nat)
    (ho : all[i]? = some ⟨some d, .load T x, ty, pos, aft, gd⟩ := by rfl) (hg : GuardOk (en E) all gd g gn := by first | exact gN | exact gS rfl rfl)
    (hx : lvOf (en E) x = some (gx, .ptr o off) := by rfl) (hgx : g = true → gx = true := by first | exact fun _ => rfl | exact id) (hb : hp L o = some (.rs e sz xs) := by rfl)
    (hj : g = true → xs[j]? = some ev) (hoff : off = j * sz := by omega)
    (h : Reg P r N D B all (i + 1) ops ((i, Ct.p gn [x] [(gx, .ptr o off)] (some d) (g, .agg (ev.map LV.sv)) [(o, .rs e sz xs)]) :: tr) (st ((d, (g, .agg (ev.map LV.sv))) :: E) L n) K) :
    Reg P r N D B all i (⟨some d, .load T x, ty, pos, aft, gd⟩ :: ops) tr (st E L n) K :=
  Reg.one rfl (fun h => by
    rw [entLV_true h hgx]
    refine OpC.of_pure1 (x := x) rfl (by simp) fun md n0 cx H ρ w hok hrd hvv => ?_
    have h1 := hj h
    simp only [V] at hvv
    obtain ⟨hA, b, hbk, he⟩ := hvv
    have hob := (hok.ok o _ (hrd o (.rs e sz xs) (by simp))).2
    have hel : ev.length = sz := hob.1 ev (List.mem_of_getElem? h1)
    have hcells : ∀ f, f < sz → ∃ v, w.cell? ⟨b, off + f, none⟩ = some v ∧ ∀ c, ev[f]? = some c → VS cx.pr w c v := by
      intro f hf
      obtain ⟨b', v, k1, k2, k3⟩ := rs_cell (f := f) (c := ev[f]'(by omega)) hob h1 (List.getElem?_eq_getElem (by omega))
      rw [k1] at hbk; cases hbk
      exact ⟨v, by rw [hoff]; exact k2, fun c hc => by rw [List.getElem?_eq_getElem (by omega)] at hc; cases hc; exact k3⟩
    have hvs : ∃ vs : List Value, vs.length = sz ∧ ∀ (f : Nat) (v : Value), vs[f]? = some v → w.cell? ⟨b, off + f, none⟩ = some v ∧ ∀ c, ev[f]? = some c → VS cx.pr w c v := by
      have : ∀ m, m ≤ sz → ∃ vs : List Value, vs.length = m ∧ ∀ (f : Nat) (v : Value), vs[f]? = some v → w.cell? ⟨b, off + f, none⟩ = some v ∧ ∀ c, ev[f]? = some c → VS cx.pr w c v := by
        intro m
        induction m with
        | zero => intro _; exact ⟨[], rfl, by simp⟩
        | succ m ih =>
          intro hm
          obtain ⟨vs, g1, g2⟩ := ih (by omega)
          obtain ⟨v, k1, k2⟩ := hcells m (by omega)
          refine ⟨vs ++ [v], by simp [g1], fun f u hu => ?_⟩
          rcases Nat.lt_or_ge f m with hlt | hge
          · rw [List.getElem?_append_left (by omega)] at hu; exact g2 f u hu
          · have hfl := (List.getElem?_eq_some_iff.1 hu).1
            simp [g1] at hfl
            have hfm : f = m := by omega
            subst hfm
            rw [List.getElem?_append_right (by omega), g1, Nat.sub_self] at hu
            simp at hu; subst hu
            exact ⟨k1, k2⟩
      exact this sz (Nat.le_refl _)
    obtain ⟨vs, g1, g2⟩ := hvs
    refine ⟨.agg vs.toArray, ?_, by simp only [V]; exact ⟨vs, rfl, Vs.of_vs (by rw [g1, hel]) (fun f c v hc hv => (g2 f v hv).2 c hc)⟩⟩
    have hl : (loadCells ⟨b, off, none⟩ vs.length).run P w = .ok vs.toArray w := run_loadCells_list (P := P) w ⟨b, off, none⟩ vs (fun f v hv => by
      have hadd : (⟨b, off, none⟩ : Addr).add f = ⟨b, off + f, none⟩ := by unfold Addr.add; split <;> simp_all
      rw [hadd]; exact (g2 f v hv).1)
    rw [g1] at hl
    simp [execOp, he, Instr.loadAt, Instr.sureAddr, loadVar, hF.1 w, hF.2 w, hl]) ho hg hx (oneL hb) h

end

end Go.Proofs.YtnamkhifmankmaaDoor

/- Calls that look at slices of one's own; stores into them; equality of structs; calls with objects. -/
namespace Go.Proofs.YtnamkhifmankmaaDoor

mutual
def LV.plain : LV → Bool
  | .sv (.val _) => true
  | .agg cs => LV.plains cs
  | .tup cs => LV.plains cs
  | _ => false
def LV.plains : List LV → Bool
  | [] => true
  | c :: cs => c.plain && LV.plains cs
end
mutual
theorem V.plain {cx cx' : Cx} {w w' : World} : ∀ (l : LV) (x : Value), l.plain = true → V cx w l x → V cx' w' l x
  | .sv (.val v), x, _, h => by simpa only [V, VS] using h
  | .sv (.sl _ _), x, hp, _ => by simp [LV.plain] at hp
  | .sv (.at_ _), x, hp, _ => by simp [LV.plain] at hp
  | .agg cs, x, hp, h => by simp only [V] at h ⊢; obtain ⟨vs, h1, h2⟩ := h; exact ⟨vs, h1, Vs.plain cs vs (by simpa [LV.plain] using hp) h2⟩
  | .tup cs, x, hp, h => by simp only [V] at h ⊢; obtain ⟨vs, h1, h2⟩ := h; exact ⟨vs, h1, Vs.plain cs vs (by simpa [LV.plain] using hp) h2⟩
  | .ptr _ _, x, hp, _ => by simp [LV.plain] at hp
  | .ref _, x, hp, _ => by simp [LV.plain] at hp
  | .fn _ _ _, x, hp, _ => by simp [LV.plain] at hp
  | .yld _, x, hp, _ => by simp [LV.plain] at hp
  | .sub _ _ _ _, x, hp, _ => by simp [LV.plain] at hp
  | .pv _, x, hp, _ => by simp [LV.plain] at hp
theorem Vs.plain {cx cx' : Cx} {w w' : World} : ∀ (l : List LV) (x : List Value), LV.plains l = true → Vs cx w l x → Vs cx' w' l x
  | [], x, _, h => by simpa [Vs] using h
  | c :: cs, x, hp, h => by
    simp only [Vs] at h ⊢
    simp only [LV.plains, Bool.and_eq_true] at hp
    obtain ⟨y, r, h1, h2, h3⟩ := h
    exact ⟨y, r, h1, V.plain c y hp.1 h2, Vs.plain cs r hp.2 h3⟩
end

/-- a slice of one's own, seen as its elements -/
def closedOf : List LV → Option (List SV)
  | [] => some []
  | .sv s :: r => match s, closedOf r with
    | .val v, some l => if v.oneCell' = true then some (.val v :: l) else none
    | s, some l => some (s :: l)
    | _, none => none
  | _ => none
def seeL (rd : List (Nat × LO)) : LV → LV
  | .ref o => match rd.lookup o with
    | some (.rs _ sz ys) => .sv (.sl sz ys)
    | _ => .ref o
  | .sub o off len cap => match rd.lookup o with
    | some (.box _ cs) => match closedOf cs with
      | some ss => if off + len ≤ ss.length ∧ len ≤ cap ∧ cap ≤ maxLen then .sv (.sl 1 (((ss.drop off).take len).map fun s => [s])) else .sub o off len cap
      | none => .sub o off len cap
    | _ => .sub o off len cap
  | l => l
theorem closedOf_one : ∀ {cs : List LV} {ss : List SV}, closedOf cs = some ss → cs = ss.map LV.sv ∧ cs.all LV.one = true
  | [], ss, h => by simp only [closedOf, Option.some.injEq] at h; subst h; exact ⟨rfl, rfl⟩
  | .sv s :: r, ss, h => by
    cases hc : closedOf r with
    | none => cases s <;> simp [closedOf, hc] at h
    | some l =>
      obtain ⟨h1, h2⟩ := closedOf_one hc
      cases s with
      | val v =>
        simp only [closedOf, hc] at h
        split at h
        · rename_i hv
          simp only [Option.some.injEq] at h
          subst h
          exact ⟨by rw [List.map_cons, ← h1], by simp only [List.all_cons, h2, Bool.and_true]; exact hv⟩
        · cases h
      | sl sz xs =>
        simp only [closedOf, hc, Option.some.injEq] at h
        subst h
        exact ⟨by rw [List.map_cons, ← h1], by simp only [List.all_cons, h2, Bool.and_true]; rfl⟩
      | at_ c =>
        simp only [closedOf, hc, Option.some.injEq] at h
        subst h
        exact ⟨by rw [List.map_cons, ← h1], by simp only [List.all_cons, h2, Bool.and_true]; rfl⟩
  | .agg _ :: _, _, h => by simp [closedOf] at h
  | .tup _ :: _, _, h => by simp [closedOf] at h
  | .ptr _ _ :: _, _, h => by simp [closedOf] at h
  | .ref _ :: _, _, h => by simp [closedOf] at h
  | .fn _ _ _ :: _, _, h => by simp [closedOf] at h
  | .yld _ :: _, _, h => by simp [closedOf] at h
  | .sub _ _ _ _ :: _, _, h => by simp [closedOf] at h
  | .pv _ :: _, _, h => by simp [closedOf] at h

def cellsAt (w : World) (b : Nat) : Nat := match w.heap[b]? with
  | some (.cells cur _ _) => cur.size
  | _ => 0

open Classical in
/-- the cells of some objects' blocks are protected too -/
noncomputable def raise (cx : Cx) (w : World) (rd : List (Nat × LO)) (b : Nat) : Nat := if blks cx (hp rd) b then cellsAt w b else cx.pr b

theorem V.see {md : Nat → Prop} {n0 : Nat} {cx : Cx} {H : Hp} {w : World} {rd : List (Nat × LO)} (hok : HOk md n0 cx H w) (hrd : ∀ o x, hp rd o = some x → H o = some x) (hext : Ext cx.pr w (raise cx w rd) w) :
    ∀ (l : LV) (x : Value), V cx w l x → V ⟨raise cx w rd, cx.A, cx.loc, cx.inn⟩ w (seeL rd l) x := by
  intro l x h
  have hm : V ⟨raise cx w rd, cx.A, cx.loc, cx.inn⟩ w l x := V.mono (cx := cx) (cx' := ⟨raise cx w rd, cx.A, cx.loc, cx.inn⟩) (w := w) (w' := w) (fun o ho => ⟨ho, rfl⟩) hext l x h
  cases l with
  | ref o =>
    simp only [seeL]
    split
    · rename_i T sz ys hl
      have hH := hrd o _ hl
      obtain ⟨hAo, hob⟩ := hok.ok o _ hH
      obtain ⟨hsz, vs, hown, hvs, hones⟩ := hob.rs_row
      simp only [V] at h
      obtain ⟨_, rfl, _⟩ := h
      simp only [V]
      refine row_frozen hsz hown hvs hones rfl hext (fun b hb => ?_)
      have hbl : blks cx (hp rd) b := ⟨o, _, hl, .inl hb.symm⟩
      rw [raise, if_pos hbl]
      rcases hown.2 with ⟨e1, e2⟩ | ⟨gb, cap, cur, e1, _, e2, e3, e4, e5, e6⟩
      · rw [e1] at hb; cases hb
      · rw [e1] at hb
        simp only [bk, Option.some.injEq] at hb
        subst hb
        simp only [cellsAt, e2, e5]
        rw [List.length_map] at e3
        exact Nat.mul_le_mul_right _ e3
    · exact hm
  | sub o off len cap =>
    simp only [seeL]
    split
    · rename_i T cs hl
      split
      · rename_i ss hss
        split
        · rename_i hle
          obtain ⟨h1, h2⟩ := closedOf_one hss
          have hH := hrd o _ hl
          obtain ⟨hAo, b, vs, k1, k2, k3⟩ := hok.ok o _ hH
          simp only [V] at h
          obtain ⟨_, b', hb', rfl⟩ := h
          rw [k1] at hb'
          simp only [bk, Option.some.injEq] at hb'
          subst hb'
          have hbl : blks cx (hp rd) b := ⟨o, _, hl, .inl (by rw [k1]; rfl)⟩
          have hra : raise cx w rd b = vs.length := by rw [raise, if_pos hbl, cellsAt, k2]; simp
          have hvl : vs.length = ss.length := by rw [k3.length, h1, List.length_map]
          have hones := Vs.ones h2 k3
          have hcell : ∀ i (hi : i < ss.length), ∃ v, w.cell? ⟨b, i, none⟩ = some v ∧ v.oneCell' = true ∧ VS (raise cx w rd) w ss[i] v := by
            intro i hi
            obtain ⟨v, hv, hV⟩ := Vs.get k3 (i := i) (c := .sv ss[i]) (by rw [h1]; simp [hi])
            refine ⟨v, by simp [World.cell?, k2, hv], hones v (List.mem_of_getElem? hv), ?_⟩
            simp only [V] at hV
            exact VS.mono hext _ _ hV
          have hln : ((ss.drop off).take len).length = len := by rw [List.length_take, List.length_drop]; omega
          simp only [V, VS]
          refine .inr ⟨b, off, cap, by rw [List.length_map, hln], by rw [List.length_map, hln]; exact hle.2.1, hle.2.2, by rw [List.length_map, hln, hra, hvl]; omega, ?_⟩
          have gen : ∀ (m : List SV) (k : Nat), (∀ i (hi : i < m.length), ∃ v, w.cell? ⟨b, k + i, none⟩ = some v ∧ v.oneCell' = true ∧ VS (raise cx w rd) w m[i] v) → VSR (raise cx w rd) w b k 1 (m.map fun s => [s]) := by
            intro m
            induction m with
            | nil => intro k _; simp [VSR]
            | cons a m ih =>
              intro k hk
              simp only [List.map_cons, VSR, VSC]
              refine ⟨rfl, ⟨?_, trivial⟩, ih (k + 1) fun i hi => ?_⟩
              · obtain ⟨v, c1, c2, c3⟩ := hk 0 (by simp)
                exact ⟨v, c1, c2, c3⟩
              · have := hk (i + 1) (by simp; omega)
                rw [show k + (i + 1) = k + 1 + i from by omega] at this
                exact this
          refine gen _ off fun i hi => ?_
          rw [hln] at hi
          have := hcell (off + i) (by omega)
          simpa using this
        · exact hm
      · exact hm
    · exact hm
  | _ => exact hm
theorem Vs.see {md : Nat → Prop} {n0 : Nat} {cx : Cx} {H : Hp} {w : World} {rd : List (Nat × LO)} (hok : HOk md n0 cx H w) (hrd : ∀ o x, hp rd o = some x → H o = some x) (hext : Ext cx.pr w (raise cx w rd) w) :
    ∀ (l : List LV) (x : List Value), Vs cx w l x → Vs ⟨raise cx w rd, cx.A, cx.loc, cx.inn⟩ w (l.map (seeL rd)) x
  | [], x, h => by simpa [Vs] using h
  | c :: cs, x, h => by
    simp only [Vs, List.map_cons] at h ⊢
    obtain ⟨y, r, h1, h2, h3⟩ := h
    exact ⟨y, r, h1, V.see hok hrd hext c y h2, Vs.see hok hrd hext cs r h3⟩

theorem Vs.vals {cx : Cx} {w : World} : ∀ (cs vs : List Value), Vs cx w (cs.map LV.v) vs → vs = cs
  | [], vs, h => by simpa [Vs] using h
  | c :: cs, vs, h => by
    simp only [List.map_cons, Vs] at h
    obtain ⟨y, rest, rfl, k1, k2⟩ := h
    rw [k1.val, Vs.vals cs rest k2]
theorem V.aggV {cx : Cx} {w : World} {cs : List Value} {l : List LV} {z : Value} (hl : l = cs.map LV.v) (h : V cx w (.agg l) z) : z = .agg cs.toArray := by
  subst hl
  simp only [V] at h
  obtain ⟨vs, rfl, h2⟩ := h
  rw [Vs.vals cs vs h2]

section
variable {P : Program} {r : Option Nat} {N : Nat} {D : List Nat} {B : Base} {all : Array Oper} {K : List (Nat × Ct) → St → Prop}
variable {i : Nat} {ops : List Oper} {tr : List (Nat × Ct)} {E : List (Nat × Ent)} {L : List (Nat × LO)} {n : Nat} {g : Bool} {gn : List (Nat × Ent)}
variable {d ty : Nat} {pos : String} {aft : Array Edge} {gd : Option (Nat × Bool)}

/-- a call of a function that touches no object, handed slices of one's own to look at -/
theorem R.callV {f : FuncId} {args : Array Operand} {ats : Array TypeId} {es : List Ent} {rd : List (Nat × LO)} {lvs : List LV} {out : LV} (hc : g = true → PC P f lvs out)
    (hrd : ∀ k x, hp rd k = some x → hp L k = some x) (hplain : out.plain = true := by rfl)
    (ho : all[i]? = some ⟨some d, .call { callee := .value (.func f), args := args, argTypes := ats }, ty, pos, aft, gd⟩ := by rfl) (hg : GuardOk (en E) all gd g gn := by first | exact gN | exact gS rfl rfl)
    (hx : args.toList.map (lvOf (en E)) = es.map some := by rfl) (hes : g = true → (es.map entLV).map (seeL rd) = lvs := by first | exact fun _ => rfl | (intro h; simp [entLV, seeL, h]))
    (h : Reg P r N D B all (i + 1) ops ((i, Ct.p gn (.func f :: args.toList) ((true, .fn (.func f) [] []) :: es) (some d) (g, out) rd) :: tr) (st ((d, (g, out)) :: E) L n) K) :
    Reg P r N D B all i (⟨some d, .call { callee := .value (.func f), args := args, argTypes := ats }, ty, pos, aft, gd⟩ :: ops) tr (st E L n) K := by
  have hl : (Oper.mk (some d) (.call { callee := .value (.func f), args := args, argTypes := ats }) ty pos aft gd).op.operands.toList = .func f :: args.toList := by simp [Op.operands, Go.Call.operands]
  refine Reg.pure (es := (true, .fn (.func f) [] []) :: es) (rd := rd) (out := out) ho hg ?_ hrd (fun hgt => ?_) ?_
  · rw [hl]; exact ⟨_, _, rfl, rfl, Opnds.of_map hx⟩
  · have h1 := (hc hgt).lc
    refine ⟨by simp, fun md n0 cx H a w K Q hok ham hrd hHi hnew hv hK => ?_⟩
    rw [hl] at hv
    simp only [List.map_cons, Vs] at hv
    obtain ⟨vf, rest, he, hvf, hva⟩ := hv
    simp only [List.cons.injEq] at he
    obtain ⟨rfl, rfl⟩ := he
    have hraise : ∀ b, blks cx (hp rd) b → cx.pr b = 0 ∧ b < w.heap.size := fun b ⟨o, x, hx, hb⟩ => by
      have := hok.own o x b (hrd o x hx) hb
      exact ⟨this.1, this.2.1⟩
    have hext : Ext cx.pr w (raise cx w rd) w := fun b off hbo => ⟨by
      unfold raise
      split
      · rename_i hh; have := (hraise b hh).1; omega
      · exact hbo, rfl⟩
    have hva0 := Vs.see hok hrd hext _ _ hva
    rw [hes hgt] at hva0
    let c1 : Cx := ⟨raise cx w rd, fun o => o < 0, cx.loc, cx.inn⟩
    have hva1 : Vs c1 w lvs (args.toList.map a.eval) := Vs.unren (cx1 := c1) (cx2 := ⟨raise cx w rd, cx.A, cx.loc, cx.inn⟩) (σ := id) (m := 0) rfl (fun o ho => absurd ho (Nat.not_lt_zero o)) _ _ h1.args (by rw [mapIs_of_lt0 _ _ h1.args]; exact hva0)
    have hlim1 : ∀ b, 0 < raise cx w rd b → b < w.heap.size := fun b hb => by
      unfold raise at hb
      split at hb
      · rename_i hh; exact (hraise b hh).2
      · exact hok.lim b hb
    have hok1 : HOk (fun _ => True) 0 c1 (hp []) w := ⟨fun o x hx => by simp at hx, fun o x b hx => by simp at hx, fun o o' x x' b _ hx => by simp at hx, hlim1⟩
    have hrun := run_call (P := P) h1.entr [] [] { callee := .value (.func f), args := args, argTypes := ats } (.func f) rfl a.eval rfl ty w
    refine ⟨fun _ _ => trivial, ?_⟩
    rw [Oper.semAt_eq _ _ _ (by simp)]
    have : (execOp a.eval ⟨some d, .call { callee := .value (.func f), args := args, argTypes := ats }, ty, pos, aft, gd⟩).run P w = .ok (.enter f (args.toList.map a.eval).toArray) w := by
      unfold execOp; simpa using hrun
    rw [this, Oper.uponIn_enter]
    refine ⟨fun h => by simp [FW, Fence.wide] at h, callsIn_FW ((h1.go c1 w _ (fun o => Iff.rfl) hok1 (ham.ext hext) hva1).mono ?_)⟩
    rintro e w' ⟨v, c2, rfl, t, hvo⟩
    have hno : ∀ b, ¬ blks c1 (hp []) b := fun b ⟨o, x, hx, _⟩ => by simp at hx
    let pr3 : Nat → Nat := fun b => if b < w.heap.size then cx.pr b else c2.pr b
    let c3 : Cx := ⟨pr3, cx.A, cx.loc, cx.inn⟩
    have hp3 : ∀ b, b < w.heap.size → pr3 b = cx.pr b := fun b hb => by show (if b < w.heap.size then _ else _) = _; rw [if_pos hb]
    refine hK c3 w' v ⟨fun o ho => ⟨ho, rfl⟩, fun o => by simp [c3], ⟨t.grow.os, t.grow.tape, t.grow.output, t.grow.size, fun b hb hn => t.grow.same b hb (hno b), fun b hb hn => hp3 b hb, fun b off hbo => ?_⟩,
      ⟨fun o x hx => by simp at hx, fun o x b hx => by simp at hx, fun o o' x x' b _ hx => by simp at hx, fun b hb => ?_⟩, fun _ _ _ => rfl⟩ (V.plain _ _ hplain hvo)
    · have hbs := hok.lim b (by omega)
      refine ⟨by show off < pr3 b; rw [hp3 b hbs]; exact hbo, ?_⟩
      simp only [World.cell?, t.grow.same b hbs (hno b)]
    · rcases Nat.lt_or_ge b w.heap.size with hlt | hge
      · exact Nat.lt_of_lt_of_le hlt t.grow.size
      · have hb' : 0 < pr3 b := hb
        simp only [pr3] at hb'
        rw [if_neg (by omega)] at hb'
        exact t.heap.lim b hb'
  · rw [hl]; exact h

/-- equality of structs of plain fields -/
theorem R.binA {op : BinOp} {t yt : Nat} {x y : Operand} {gx gy : Bool} {as bs : List Value} {ls ms : List LV} {v : Value} (hv : ∀ w, (do eqGuard op t x y (.agg as.toArray) (.agg bs.toArray); binOp op t (.agg as.toArray) (.agg bs.toArray) : Sem Value).run P w = .ok v w)
    (ho : all[i]? = some ⟨some d, .binOp op t x y yt, ty, pos, aft, gd⟩ := by rfl) (hg : GuardOk (en E) all gd g gn := by first | exact gN | exact gS rfl rfl)
    (hx : lvOf (en E) x = some (gx, .agg ls) := by rfl) (hy : lvOf (en E) y = some (gy, .agg ms) := by rfl) (hl : ls = as.map LV.v := by rfl) (hm : ms = bs.map LV.v := by rfl)
    (hgx : g = true → gx = true := by first | exact fun _ => rfl | exact id) (hgy : g = true → gy = true := by first | exact fun _ => rfl | exact id)
    (h : Reg P r N D B all (i + 1) ops ((i, Ct.p gn [x, y] [(gx, .agg ls), (gy, .agg ms)] (some d) (g, .v v) []) :: tr) (st ((d, (g, .v v)) :: E) L n) K) :
    Reg P r N D B all i (⟨some d, .binOp op t x y yt, ty, pos, aft, gd⟩ :: ops) tr (st E L n) K :=
  Reg.two rfl (fun h => by
    rw [entLV_true h hgx, entLV_true h hgy]
    refine OpC.of_pure2 (x := x) (y := y) rfl (by simp) fun md n0 cx H ρ w _ _ v1 v2 => ?_
    have e1 := V.aggV hl v1
    have e2 := V.aggV hm v2
    refine ⟨v, ?_, V.mkval⟩
    have := hv w
    rw [← e1, ← e2] at this
    simp only [execOp]
    rw [Sem.run_bind, this]
    rfl) ho hg hx hy (by simp) h

end

end Go.Proofs.YtnamkhifmankmaaDoor

/- Strings as lists of bytes; bytes of a string; entries told anew; slices out of closed elements. -/
namespace Go.Proofs.YtnamkhifmankmaaDoor

theorem byt_size (l : List UInt8) : (⟨l.toArray⟩ : ByteArray).size = l.length := by simp [ByteArray.size]
theorem byt_extract (l : List UInt8) (a b : Nat) : (⟨l.toArray⟩ : ByteArray).extract a b = ⟨((l.take b).drop a).toArray⟩ := by
  apply ByteArray.ext
  simp [ByteArray.data_extract, List.drop_take]
theorem byt_append (l m : List UInt8) : (⟨l.toArray⟩ : ByteArray) ++ ⟨m.toArray⟩ = ⟨(l ++ m).toArray⟩ := by
  apply ByteArray.ext
  simp [ByteArray.data_append]
theorem byt_eq (l m : List UInt8) : decide ((⟨l.toArray⟩ : ByteArray) = ⟨m.toArray⟩) = decide (l = m) := by
  congr 1
  simp [ByteArray.mk.injEq]
theorem byt_get (l : List UInt8) (j : Nat) (c : UInt8) (h : l[j]? = some c) : (⟨l.toArray⟩ : ByteArray)[j]? = some c := by
  have hlt := (List.getElem?_eq_some_iff.1 h).1
  have hsz : j < (⟨l.toArray⟩ : ByteArray).size := by rw [byt_size]; exact hlt
  have he := (List.getElem?_eq_some_iff.1 h).2
  simp only [getElem?, decidableGetElem?, hsz, dif_pos]
  exact congrArg some he

/-! equality of structs -/

theorem byt_beq (a b : List UInt8) : ((⟨a.toArray⟩ : ByteArray).toList == (⟨b.toArray⟩ : ByteArray).toList) = decide (a = b) := by
  rw [ByteArray.toList_eq, ByteArray.toList_eq]
  by_cases h : a = b
  · subst h; simp
  · simp [h]
theorem run_eqS {P : Program} {t : Nat} {fs : Array Field} (hu : P.underlying t = some (.struct fs)) (hp : P.stoodInHeld t = false) (hm : P.eqGuardType P.depth t = false) {xs ys : Array Value} {b : Bool}
    (h : ∀ w, (Op.eqFields 9999 xs ys fs.toList).run P w = .ok b w) (x y : Operand) : ∀ w, (do eqGuard .eql t x y (.agg xs) (.agg ys); binOp .eql t (.agg xs) (.agg ys) : Sem Value).run P w = .ok (.bool b) w := by
  intro w
  have hf : P.fieldsOf t = fs := by unfold Program.fieldsOf; rw [hu]
  have h1 : (Op.equalIn 10000 t (.agg xs) (.agg ys)).run P w = .ok b w := by
    have := run_equalIn_agg (P := P) w 9999 t xs ys (by rw [hf]; exact hu) hp
    rw [hf, h w] at this
    exact this
  rw [Sem.run_bind, run_eqGuard_agg _ _ _ _ _ _ _ hm]
  simp only [Result.andThen_ok]
  rw [run_eql_struct, h1]
  rfl
theorem run_neS {P : Program} {t : Nat} {fs : Array Field} (hu : P.underlying t = some (.struct fs)) (hp : P.stoodInHeld t = false) (hm : P.eqGuardType P.depth t = false) {xs ys : Array Value} {b : Bool}
    (h : ∀ w, (Op.eqFields 9999 xs ys fs.toList).run P w = .ok b w) (x y : Operand) : ∀ w, (do eqGuard .neq t x y (.agg xs) (.agg ys); binOp .neq t (.agg xs) (.agg ys) : Sem Value).run P w = .ok (.bool (!b)) w := by
  intro w
  have hf : P.fieldsOf t = fs := by unfold Program.fieldsOf; rw [hu]
  have h1 : (Op.equalIn 10000 t (.agg xs) (.agg ys)).run P w = .ok b w := by
    have := run_equalIn_agg (P := P) w 9999 t xs ys (by rw [hf]; exact hu) hp
    rw [hf, h w] at this
    exact this
  rw [Sem.run_bind, run_eqGuard_agg _ _ _ _ _ _ _ hm]
  simp only [Result.andThen_ok]
  rw [run_neq_struct, h1]
  rfl

section
variable {P : Program} {r : Option Nat} {N : Nat} {D : List Nat} {B : Base} {Ψ : Exit → Act → World → Prop} {todo : List Item}
variable {E : List (Nat × Ent)} {L : List (Nat × LO)} {n : Nat}

/-- an entry told anew -/
theorem LGo.re (t : Nat) {g : Bool} {lv : LV} (lv' : LV) (ht : en E t = some (g, lv)) (hv : ∀ cx w x, V cx w lv x → V cx w lv' x) (h : LGo P r N D B Ψ todo (st ((t, (g, lv')) :: E) L n)) : LGo P r N D B Ψ todo (st E L n) := by
  refine LGo.conv (S' := st ((t, (g, lv')) :: E) L n) (fun cx a w hr => ⟨cx, hr.grow, hr.le, hr.hA, hr.heap, hr.size, fun s e he => ?_, hr.df, hr.dA⟩) h
  simp only [st, en, List.lookup_cons] at he
  split at he
  · rename_i hh
    simp at hh
    cases he
    subst hh
    have := hr.env s _ ht
    exact ⟨fun hg => hv _ _ _ (this.1 hg), this.2⟩
  · exact hr.env s e he
/-- the nil slice, as a slice without elements -/
theorem LGo.nilSl (t sz : Nat) {g : Bool} (ht : en E t = some (g, .v (.slice none 0 0)) := by rfl) (h : LGo P r N D B Ψ todo (st ((t, (g, .sv (.sl sz []))) :: E) L n)) : LGo P r N D B Ψ todo (st E L n) :=
  LGo.re t _ ht (fun cx w x hx => by simp only [V, VS] at hx ⊢; exact .inl ⟨.inl hx, trivial⟩) h

end

/-- the closed value that a cell holds -/
def unSv : LV → SV
  | .sv s => s
  | _ => .val undef

section
variable {P : Program} {r : Option Nat} {N : Nat} {D : List Nat} {B : Base} {all : Array Oper} {K : List (Nat × Ct) → St → Prop}
variable {i : Nat} {ops : List Oper} {tr : List (Nat × Ct)} {E : List (Nat × Ent)} {L : List (Nat × LO)} {n : Nat} {g : Bool} {gn : List (Nat × Ent)}
variable {d ty : Nat} {pos : String} {aft : Array Edge} {gd : Option (Nat × Bool)}

theorem R.lenT {T : Nat} (hT : ∀ w, (underlying T).run P w = .ok .string w) {x : Operand} {gx : Bool} {l : List UInt8}
    (ho : all[i]? = some ⟨some d, .call { callee := .builtin .len, args := #[x], argTypes := #[T] }, ty, pos, aft, gd⟩ := by rfl) (hg : GuardOk (en E) all gd g gn := by first | exact gN | exact gS rfl rfl)
    (hx : lvOf (en E) x = some (gx, .t l) := by rfl) (hgx : g = true → gx = true := by first | exact fun _ => rfl | exact id)
    (h : Reg P r N D B all (i + 1) ops ((i, Ct.p gn [x] [(gx, .t l)] (some d) (g, .i l.length) []) :: tr) (st ((d, (g, .i l.length)) :: E) L n) K) :
    Reg P r N D B all i (⟨some d, .call { callee := .builtin .len, args := #[x], argTypes := #[T] }, ty, pos, aft, gd⟩ :: ops) tr (st E L n) K :=
  R.lenV (a := .string ⟨l.toArray⟩) (m := l.length) (fun w => by rw [run_lenS hT w, byt_size]) ho hg hx hgx h

theorem R.indexT {T : Nat} (hT : ∀ w, (underlying T).run P w = .ok .string w) {x y : Operand} {gx gy : Bool} {l : List UInt8} {k : IntKind} {j : Int} {c : UInt8}
    (ho : all[i]? = some ⟨some d, .index T x y, ty, pos, aft, gd⟩ := by rfl) (hg : GuardOk (en E) all gd g gn := by first | exact gN | exact gS rfl rfl)
    (hx : lvOf (en E) x = some (gx, .t l) := by rfl) (hy : lvOf (en E) y = some (gy, .v (.int k j)) := by rfl)
    (hgx : g = true → gx = true := by first | exact fun _ => rfl | exact id) (hgy : g = true → gy = true := by first | exact fun _ => rfl | exact id)
    (hj : g = true → 0 ≤ j ∧ l[j.toNat]? = some c)
    (h : Reg P r N D B all (i + 1) ops ((i, Ct.p gn [x, y] [(gx, .t l), (gy, .v (.int k j))] (some d) (g, .y c.toNat) []) :: tr) (st ((d, (g, .y c.toNat)) :: E) L n) K) :
    Reg P r N D B all i (⟨some d, .index T x y, ty, pos, aft, gd⟩ :: ops) tr (st E L n) K :=
  Reg.two rfl (fun h => by
    rw [entLV_true h hgx, entLV_true h hgy]
    refine OpC.of_pure2 (x := x) (y := y) rfl (by simp) fun md n0 cx H ρ w _ _ v1 v2 => ?_
    obtain ⟨h0, h1⟩ := hj h
    refine ⟨.int .u8 c.toNat, ?_, V.mkval⟩
    have hs := byt_get l _ c h1
    simp [execOp, Instr.index, asIntOf, v1.val, v2.val, hT w, h0, hs]) ho hg hx hy (by simp) h

theorem run_sliceT {T : Nat} (hT : ∀ w, (underlying T).run P w = .ok .string w) {l : List UInt8} (lo hi : Option Value) (a b : Nat)
    (hlo : (lo = none ∧ a = 0) ∨ ∃ k, lo = some (.int k a)) (hhi : (hi = none ∧ b = l.length) ∨ ∃ k, hi = some (.int k b)) (hab : a ≤ b) (hb : b ≤ l.length) (w : World) :
    (Instr.sliceAt T (.string ⟨l.toArray⟩) lo hi none).run P w = .ok (.string ⟨((l.take b).drop a).toArray⟩) w := by
  have hsz := byt_size l
  have hex := byt_extract l
  rcases hlo with ⟨rfl, rfl⟩ | ⟨k, rfl⟩ <;> rcases hhi with ⟨rfl, rfl⟩ | ⟨k', rfl⟩ <;>
    simp [Instr.sliceAt, Instr.slice, hT w, Instr.sliceBounds, Instr.sliceBound, asIntOf, hab, hb, hsz, hex]

theorem R.sliceTLo {T : Nat} (hT : ∀ w, (underlying T).run P w = .ok .string w) {x y : Operand} {gx gy : Bool} {l : List UInt8} {k : IntKind} {a : Int}
    (ho : all[i]? = some ⟨some d, .slice T x (some y) none none, ty, pos, aft, gd⟩ := by rfl) (hg : GuardOk (en E) all gd g gn := by first | exact gN | exact gS rfl rfl)
    (hx : lvOf (en E) x = some (gx, .t l) := by rfl) (hy : lvOf (en E) y = some (gy, .v (.int k a)) := by rfl)
    (hgx : g = true → gx = true := by first | exact fun _ => rfl | exact id) (hgy : g = true → gy = true := by first | exact fun _ => rfl | exact id)
    (ha : g = true → 0 ≤ a ∧ a ≤ l.length)
    (h : Reg P r N D B all (i + 1) ops ((i, Ct.p gn [x, y] [(gx, .t l), (gy, .v (.int k a))] (some d) (g, .t (l.drop a.toNat)) []) :: tr) (st ((d, (g, .t (l.drop a.toNat))) :: E) L n) K) :
    Reg P r N D B all i (⟨some d, .slice T x (some y) none none, ty, pos, aft, gd⟩ :: ops) tr (st E L n) K :=
  Reg.two rfl (fun h => by
    rw [entLV_true h hgx, entLV_true h hgy]
    refine OpC.of_pure2 (x := x) (y := y) rfl (by simp) fun md n0 cx H ρ w _ _ v1 v2 => ?_
    obtain ⟨h0, h1⟩ := ha h
    obtain ⟨m, rfl⟩ := Int.eq_ofNat_of_zero_le h0
    have hr := run_sliceT (P := P) hT (some (.int k m)) none m l.length (.inr ⟨k, rfl⟩) (.inl ⟨rfl, rfl⟩) (by omega) (Nat.le_refl _) w
    rw [List.take_length] at hr
    refine ⟨_, ?_, V.mkval⟩
    simp [execOp, v1.val, v2.val, hr]) ho hg hx hy (by simp) h
theorem R.sliceTHi {T : Nat} (hT : ∀ w, (underlying T).run P w = .ok .string w) {x y : Operand} {gx gy : Bool} {l : List UInt8} {k : IntKind} {a : Int}
    (ho : all[i]? = some ⟨some d, .slice T x none (some y) none, ty, pos, aft, gd⟩ := by rfl) (hg : GuardOk (en E) all gd g gn := by first | exact gN | exact gS rfl rfl)
    (hx : lvOf (en E) x = some (gx, .t l) := by rfl) (hy : lvOf (en E) y = some (gy, .v (.int k a)) := by rfl)
    (hgx : g = true → gx = true := by first | exact fun _ => rfl | exact id) (hgy : g = true → gy = true := by first | exact fun _ => rfl | exact id)
    (ha : g = true → 0 ≤ a ∧ a ≤ l.length)
    (h : Reg P r N D B all (i + 1) ops ((i, Ct.p gn [x, y] [(gx, .t l), (gy, .v (.int k a))] (some d) (g, .t (l.take a.toNat)) []) :: tr) (st ((d, (g, .t (l.take a.toNat))) :: E) L n) K) :
    Reg P r N D B all i (⟨some d, .slice T x none (some y) none, ty, pos, aft, gd⟩ :: ops) tr (st E L n) K :=
  Reg.two rfl (fun h => by
    rw [entLV_true h hgx, entLV_true h hgy]
    refine OpC.of_pure2 (x := x) (y := y) rfl (by simp) fun md n0 cx H ρ w _ _ v1 v2 => ?_
    obtain ⟨h0, h1⟩ := ha h
    obtain ⟨m, rfl⟩ := Int.eq_ofNat_of_zero_le h0
    have hr := run_sliceT (P := P) (l := l) hT none (some (.int k m)) 0 m (.inl ⟨rfl, rfl⟩) (.inr ⟨k, rfl⟩) (by omega) (by omega) w
    rw [List.drop_zero] at hr
    refine ⟨_, ?_, V.mkval⟩
    simp [execOp, v1.val, v2.val, hr]) ho hg hx hy (by simp) h
theorem R.sliceTLoHi {T : Nat} (hT : ∀ w, (underlying T).run P w = .ok .string w) {x y z : Operand} {gx gy gz : Bool} {l : List UInt8} {k k' : IntKind} {a b : Int}
    (ho : all[i]? = some ⟨some d, .slice T x (some y) (some z) none, ty, pos, aft, gd⟩ := by rfl) (hg : GuardOk (en E) all gd g gn := by first | exact gN | exact gS rfl rfl)
    (hx : lvOf (en E) x = some (gx, .t l) := by rfl) (hy : lvOf (en E) y = some (gy, .v (.int k a)) := by rfl) (hz : lvOf (en E) z = some (gz, .v (.int k' b)) := by rfl)
    (hgx : g = true → gx = true := by first | exact fun _ => rfl | exact id) (hgy : g = true → gy = true := by first | exact fun _ => rfl | exact id) (hgz : g = true → gz = true := by first | exact fun _ => rfl | exact id)
    (ha : g = true → 0 ≤ a ∧ a ≤ b ∧ b ≤ l.length)
    (h : Reg P r N D B all (i + 1) ops ((i, Ct.p gn [x, y, z] [(gx, .t l), (gy, .v (.int k a)), (gz, .v (.int k' b))] (some d) (g, .t ((l.take b.toNat).drop a.toNat)) []) :: tr) (st ((d, (g, .t ((l.take b.toNat).drop a.toNat))) :: E) L n) K) :
    Reg P r N D B all i (⟨some d, .slice T x (some y) (some z) none, ty, pos, aft, gd⟩ :: ops) tr (st E L n) K :=
  Reg.three rfl (fun h => by
    rw [entLV_true h hgx, entLV_true h hgy, entLV_true h hgz]
    refine OpC.of_pure3 (x := x) (y := y) (z := z) rfl (by simp) fun md n0 cx H ρ w _ _ v1 v2 v3 => ?_
    obtain ⟨h0, h1, h2⟩ := ha h
    obtain ⟨m, rfl⟩ := Int.eq_ofNat_of_zero_le h0
    obtain ⟨m', rfl⟩ := Int.eq_ofNat_of_zero_le (show 0 ≤ b by omega)
    have hr := run_sliceT (P := P) (l := l) hT (some (.int k m)) (some (.int k' m')) m m' (.inr ⟨k, rfl⟩) (.inr ⟨k', rfl⟩) (by omega) (by omega) w
    refine ⟨_, ?_, V.mkval⟩
    simp [execOp, v1.val, v2.val, v3.val, hr]) ho hg hx hy hz (by simp) h

theorem run_eqlT (t : Nat) (x y : Operand) (a b : List UInt8) : ∀ w, (do eqGuard .eql t x y (.string ⟨a.toArray⟩) (.string ⟨b.toArray⟩); binOp .eql t (.string ⟨a.toArray⟩) (.string ⟨b.toArray⟩) : Sem Value).run P w = .ok (.bool (decide (a = b))) w := by
  intro w; rw [run_eqlS t x y _ _ w, byt_eq]
theorem run_neqT (t : Nat) (x y : Operand) (a b : List UInt8) : ∀ w, (do eqGuard .neq t x y (.string ⟨a.toArray⟩) (.string ⟨b.toArray⟩); binOp .neq t (.string ⟨a.toArray⟩) (.string ⟨b.toArray⟩) : Sem Value).run P w = .ok (.bool (!decide (a = b))) w := by
  intro w; rw [run_neqS t x y _ _ w, byt_eq]
theorem run_addT (t : Nat) (x y : Operand) (a b : List UInt8) (h : a.length + b.length ≤ 9223372036854775807) : ∀ w, (do eqGuard .add t x y (.string ⟨a.toArray⟩) (.string ⟨b.toArray⟩); binOp .add t (.string ⟨a.toArray⟩) (.string ⟨b.toArray⟩) : Sem Value).run P w = .ok (.string ⟨(a ++ b).toArray⟩) w := by
  intro w
  have h1 := run_string_add_sum (P := P) (w := w) ⟨a.toArray⟩ ⟨b.toArray⟩ (by rw [byt_size, byt_size]; exact h)
  rw [byt_append] at h1
  simp [eqGuard, binOp, h1]

/-- the bytes of a string, as a new slice that is written no more -/
theorem R.toBytes {s t e : Nat} (hs : P.underlying s = some .string) (ht : P.underlying t = some (.slice e)) (he : P.underlying e = some (.int .u8)) {x : Operand} {l : List UInt8}
    (ho : all[i]? = some ⟨some d, .convert s t x, ty, pos, aft, gd⟩ := by rfl) (hg : GuardOk (en E) all gd g gn := by first | exact gN | exact gS rfl rfl) {gx : Bool}
    (hx : lvOf (en E) x = some (gx, .t l) := by rfl) (hgx : g = true → gx = true := by first | exact fun _ => rfl | exact id)
    (hl : l.length ≤ 4398046511104)
    (h : Reg P r N D B all (i + 1) ops ((i, Ct.p gn [x] [(gx, .t l)] (some d) (g, .sv (.sl 1 (bytesC l))) []) :: tr) (st ((d, (g, .sv (.sl 1 (bytesC l)))) :: E) L n) K) :
    Reg P r N D B all i (⟨some d, .convert s t x, ty, pos, aft, gd⟩ :: ops) tr (st E L n) K :=
  Reg.one rfl (fun h => by
    rw [entLV_true h hgx]
    refine OpC.of_run (by simp) (by simp) fun md n0 cx H ρ w hok _ _ _ hv => ?_
    have hop : (Oper.mk (some d) (.convert s t x) ty pos aft gd).op.operands.toList = [x] := rfl
    rw [hop] at hv
    have hx' : ρ x = .string ⟨l.toArray⟩ := (Vs.one hv).val
    have hrun := run_bytes_of_string (P := P) w s t e ⟨l.toArray⟩ hs ht he
    rw [byt_size] at hrun
    have hge := grownCap_ge w l.length 0 e
    have hcm := grownCap_le_maxLen w l.length 0 e (by unfold maxLen; omega)
    generalize hcap : grownCap w l.length 0 e = cap at hrun hge hcm
    let ob : Obj := .cells (bytesRow ⟨l.toArray⟩ cap) e ((bytesRow ⟨l.toArray⟩ cap).size, (bytesRow ⟨l.toArray⟩ cap).size + 1)
    let pr' : Nat → Nat := fun b => if b = w.heap.size then l.length else cx.pr b
    let cx' : Cx := ⟨pr', cx.A, cx.loc, cx.inn⟩
    have hold : ∀ b, b < w.heap.size → (w.drew.alloc ob).heap[b]? = w.heap[b]? := fun b hb => heap_alloc_old w.drew ob hb
    have hnew : (w.drew.alloc ob).heap[w.heap.size]? = some ob := heap_alloc_new w.drew ob
    have hsz : (w.drew.alloc ob).heap.size = w.heap.size + 1 := by simp
    have hprold : ∀ b, b < w.heap.size → pr' b = cx.pr b := fun b hb => by show (if b = w.heap.size then _ else _) = _; rw [if_neg (by omega)]
    refine ⟨.value (.slice (some ⟨w.heap.size, 0, none⟩) l.length cap), _, w.drew.alloc ob, cx', ?_, .inl rfl, ⟨fun o ho => ⟨ho, rfl⟩, fun o => by simp [cx'], ⟨rfl, rfl, rfl, by omega, fun b hb _ => hold b hb, fun b hb _ => hprold b hb, fun b off hb => ?_⟩,
      ⟨fun o x hx => by simp at hx, fun o x b hx => by simp at hx, fun o o' x x' b _ hx => by simp at hx, fun b hb => ?_⟩, fun _ _ _ => rfl⟩, ?_⟩
    · simp only [execOp, hx']
      rw [Sem.run_bind, hrun]
      rfl
    · have hbs := hok.lim b (by omega)
      refine ⟨by show off < pr' b; rw [hprold b hbs]; exact hb, ?_⟩
      simp only [World.cell?, hold b hbs]
    · rcases Nat.lt_trichotomy b w.heap.size with hlt | heq | hgt
      · omega
      · omega
      · have hb' : 0 < pr' b := hb
        simp only [pr'] at hb'
        rw [if_neg (by omega)] at hb'
        have := hok.lim b hb'; omega
    · simp only [V, VS]
      right
      refine ⟨w.heap.size, 0, cap, by simp [bytesC], by simpa [bytesC] using hge, hcm, ?_, ?_⟩
      · show _ ≤ pr' w.heap.size
        simp [pr', bytesC]
      · have hcell : ∀ j, (hj : j < l.length) → (w.drew.alloc ob).cell? ⟨w.heap.size, j, none⟩ = some (.int .u8 (l[j].toNat : Int)) := by
          intro j hj
          have e1 : (bytesRow ⟨l.toArray⟩ cap)[j]? = some (.int .u8 (l[j].toNat : Int)) := by
            simp [bytesRow, Array.getElem?_append, hj]
          simp only [World.cell?, hnew, ob]
          simp [e1]
        have gen : ∀ (m : List UInt8) (off : Nat), (∀ j, (hj : j < m.length) → (w.drew.alloc ob).cell? ⟨w.heap.size, off + j, none⟩ = some (.int .u8 (m[j].toNat : Int))) → VSR pr' (w.drew.alloc ob) w.heap.size off 1 (bytesC m) := by
          intro m
          induction m with
          | nil => intro off _; simp [bytesC, VSR]
          | cons c m ih =>
            intro off hc
            simp only [bytesC, List.map_cons, VSR, VSC, VS]
            refine ⟨rfl, ⟨⟨_, by have h0 := hc 0 (by simp); simp only [Nat.add_zero] at h0; exact h0, rfl, rfl⟩, trivial⟩, ih (off + 1) (fun j hj => ?_)⟩
            have := hc (j + 1) (by simpa using hj)
            rw [show off + 1 + j = off + (j + 1) from by omega]
            simpa using this
        exact gen l 0 (fun j hj => by rw [Nat.zero_add]; exact hcell j hj)) ho hg hx (by simp) h

/-- a slice out of its elements, closed, never written again -/
theorem R.buildSliceG {t e sz : Nat} (hF : AppF P t e sz) {len : Nat} {parts : Array (Nat × Operand)} {xs : List Operand} {es : List Ent} {ls : List LV} {cs : List (List LV)} {ys : List (List SV)}
    (ho : all[i]? = some ⟨some d, .buildSlice t len parts, ty, pos, aft, gd⟩ := by rfl) (hg : GuardOk (en E) all gd g gn := by first | exact gN | exact gS rfl rfl) (hp' : parts.toList = xs.zipIdx.map (fun p => (p.2, p.1)) := by rfl)
    (hx : xs.map (lvOf (en E)) = es.map some := by rfl) (hes : g = true → es.map entLV = ls := by first | exact fun _ => rfl | (intro h; simp [entLV, h]; done) | (intro h; simp only [List.map_cons, List.map_nil, entLV_eq h]; first | done | rfl))
    (hcs : CellsOfs ls cs) (hys : cs.map (List.map unSv) = ys := by simp only [List.map_cons, List.map_nil, entLV, unSv]; rfl)
    (hsz : (cs.all fun c => c.length == sz) = true := by rfl) (hlen : cs.length = len := by rfl)
    (hl : LV.lts 0 ls = true := by rfl) (hy : cs = ys.map (List.map LV.sv) := by rfl)
    (hsm : len * sz ≤ 16777216 := by first | decide | omega) (hlm : len ≤ 16777216 := by first | decide | omega)
    (h : Reg P r N D B all (i + 1) ops ((i, Ct.p gn xs es (some d) (g, .sv (.sl sz ys)) []) :: tr) (st ((d, (g, .sv (.sl sz ys))) :: E) L n) K) :
    Reg P r N D B all i (⟨some d, .buildSlice t len parts, ty, pos, aft, gd⟩ :: ops) tr (st E L n) K :=
  R.buildSliceF hF ys ho hg hp' hx hes hcs hsz hlen hl hy hsm hlm h

end

end Go.Proofs.YtnamkhifmankmaaDoor

/- Slices of integers and of bytes as lists; shifts and ors; calls with objects. -/
namespace Go.Proofs.YtnamkhifmankmaaDoor

/-- the elements of a slice of integers -/
def ic (k : IntKind) (l : List Int) : List (List SV) := l.map fun x => [.val (.int k x)]
theorem ic_nil (k : IntKind) : ic k [] = [] := rfl
theorem ic_app (k : IntKind) (l m : List Int) : ic k (l ++ m) = ic k l ++ ic k m := by simp [ic]
theorem ic_len (k : IntKind) (l : List Int) : (ic k l).length = l.length := by simp [ic]
theorem ic_one (k : IntKind) (l : List Int) : ∀ e ∈ ic k l, e.length = 1 := by simp [ic]
theorem ic_get {k : IntKind} {l : List Int} {j : Nat} {x : Int} (h : l[j]? = some x) : (ic k l)[j]? = some [.val (.int k x)] := by simp [ic, h]
theorem ic_take (k : IntKind) (l : List Int) (n : Nat) : (ic k l).take n = ic k (l.take n) := by simp [ic, List.map_take]
theorem ic_drop (k : IntKind) (l : List Int) (n : Nat) : (ic k l).drop n = ic k (l.drop n) := by simp [ic, List.map_drop]
theorem ic_snoc (k : IntKind) (l : List Int) (x : Int) : ic k l ++ [[.val (.int k x)]] = ic k (l ++ [x]) := by simp [ic]
theorem bytesC_nil : bytesC [] = [] := rfl
theorem bytesC_app (l m : List UInt8) : bytesC (l ++ m) = bytesC l ++ bytesC m := by simp [bytesC]
theorem bytesC_length (l : List UInt8) : (bytesC l).length = l.length := by simp [bytesC]
theorem bytesC_one (l : List UInt8) : ∀ e ∈ bytesC l, e.length = 1 := by simp [bytesC]
theorem bytesC_get {l : List UInt8} {j : Nat} {x : UInt8} (h : l[j]? = some x) : (bytesC l)[j]? = some [.val (.int .u8 x.toNat)] := by simp [bytesC, h]
theorem bytesC_take (l : List UInt8) (n : Nat) : (bytesC l).take n = bytesC (l.take n) := by simp [bytesC, List.map_take]
theorem bytesC_drop (l : List UInt8) (n : Nat) : (bytesC l).drop n = bytesC (l.drop n) := by simp [bytesC, List.map_drop]
theorem bytesC_snoc (l : List UInt8) (c : UInt8) : bytesC l ++ [[.val (.int .u8 c.toNat)]] = bytesC (l ++ [c]) := by simp [bytesC]
/-- an integer as a byte -/
def byt (n : Int) : UInt8 := UInt8.ofNat n.toNat
theorem byt_toNat (n : Int) (h0 : 0 ≤ n) (h1 : n < 256) : ((byt n).toNat : Int) = n := by
  simp only [byt, UInt8.toNat_ofNat']; omega
theorem byt_of (c : UInt8) : byt (c.toNat : Int) = c := by
  simp only [byt, Int.toNat_natCast]; exact UInt8.ofNat_toNat
theorem ic_byt (l : List Int) (h : ∀ x ∈ l, 0 ≤ x ∧ x < 256) : ic .u8 l = bytesC (l.map byt) := by
  simp only [ic, bytesC, List.map_map]
  exact List.map_congr_left (fun x hx => by simp only [Function.comp]; rw [byt_toNat x (h x hx).1 (h x hx).2])
theorem bytesC_ic (l : List UInt8) : bytesC l = ic .u8 (l.map fun c => (c.toNat : Int)) := by simp [bytesC, ic, List.map_map, Function.comp]
theorem u8_lt (c : UInt8) : (c.toNat : Int) < 256 := by have := c.toNat_lt; omega
theorem u8_ge (c : UInt8) : (0 : Int) ≤ c.toNat := by omega

section
variable {P : Program}
theorem run_shlE (t : Nat) (x y : Operand) (k yk : IntKind) (a b : Int) {v : Int} (hb : 0 ≤ b) (hv : k.wrap (a * 2 ^ (min b.toNat k.bits)) = v) : ∀ w, (do eqGuard .shl t x y (.int k a) (.int yk b); binOp .shl t (.int k a) (.int yk b) : Sem Value).run P w = .ok (.int k v) w := by
  subst hv; exact run_shl t x y k yk a b hb
theorem run_orE (t : Nat) (x y : Operand) (k : IntKind) (a b : Int) {v : Int} (hv : k.wrap ((BitVec.ofInt k.bits a ||| BitVec.ofInt k.bits b).toNat) = v) : ∀ w, (do eqGuard .or t x y (.int k a) (.int k b); binOp .or t (.int k a) (.int k b) : Sem Value).run P w = .ok (.int k v) w := by
  subst hv; exact run_or t x y k a b
theorem run_andE (t : Nat) (x y : Operand) (k : IntKind) (a b : Int) {v : Int} (hv : k.wrap ((BitVec.ofInt k.bits a &&& BitVec.ofInt k.bits b).toNat) = v) : ∀ w, (do eqGuard .and t x y (.int k a) (.int k b); binOp .and t (.int k a) (.int k b) : Sem Value).run P w = .ok (.int k v) w := by
  subst hv; exact run_and t x y k a b
theorem or_low (m a c s : Nat) (hc : c < 2 ^ s) (h : a * 2 ^ s + c < 2 ^ m) : (BitVec.ofInt m ((a : Int) * 2 ^ s) ||| BitVec.ofInt m (c : Int)).toNat = a * 2 ^ s + c := by
  have h1 : (a : Int) * 2 ^ s = ((a * 2 ^ s : Nat) : Int) := by push_cast; rfl
  rw [h1, BitVec.toNat_or]
  simp only [BitVec.ofInt_natCast, BitVec.toNat_ofNat]
  rw [Nat.mod_eq_of_lt (by omega), Nat.mod_eq_of_lt (by omega), Nat.mul_comm a, Nat.two_pow_add_eq_or_of_lt hc]
theorem or_low_i64 (a c : Int) (s : Nat) (ha : 0 ≤ a) (hc : 0 ≤ c) (hc' : c < 2 ^ s) (h : a * 2 ^ s + c < 9223372036854775808) : IntKind.i64.wrap ((BitVec.ofInt IntKind.i64.bits (a * 2 ^ s) ||| BitVec.ofInt IntKind.i64.bits c).toNat) = a * 2 ^ s + c := by
  obtain ⟨a, rfl⟩ := Int.eq_ofNat_of_zero_le ha
  obtain ⟨c, rfl⟩ := Int.eq_ofNat_of_zero_le hc
  have h' : a * 2 ^ s + c < 9223372036854775808 := by
    have e : ((a * 2 ^ s + c : Nat) : Int) < ((9223372036854775808 : Nat) : Int) := by rw [Int.natCast_add, Int.natCast_mul, Int.natCast_pow]; exact h
    exact Int.ofNat_lt.1 e
  have hc1 : c < 2 ^ s := by
    have e : (c : Int) < ((2 ^ s : Nat) : Int) := by push_cast; exact hc'
    exact Int.ofNat_lt.1 e
  show IntKind.i64.wrap (((BitVec.ofInt 64 ((a : Int) * 2 ^ s) ||| BitVec.ofInt 64 (c : Int)).toNat : Nat) : Int) = _
  rw [or_low 64 a c s hc1 (by omega)]
  push_cast
  refine wrap_i64 ?_ (by omega)
  have : (0 : Int) ≤ (a : Int) * 2 ^ s := Int.mul_nonneg ha (Int.le_of_lt (Int.pow_pos (by omega)))
  omega
theorem or_low_u64 (a c : Int) (s : Nat) (ha : 0 ≤ a) (hc : 0 ≤ c) (hc' : c < 2 ^ s) (h : a * 2 ^ s + c < 18446744073709551616) : IntKind.u64.wrap ((BitVec.ofInt IntKind.u64.bits (a * 2 ^ s) ||| BitVec.ofInt IntKind.u64.bits c).toNat) = a * 2 ^ s + c := by
  obtain ⟨a, rfl⟩ := Int.eq_ofNat_of_zero_le ha
  obtain ⟨c, rfl⟩ := Int.eq_ofNat_of_zero_le hc
  have h' : a * 2 ^ s + c < 18446744073709551616 := by
    have e : ((a * 2 ^ s + c : Nat) : Int) < ((18446744073709551616 : Nat) : Int) := by rw [Int.natCast_add, Int.natCast_mul, Int.natCast_pow]; exact h
    exact Int.ofNat_lt.1 e
  have hc1 : c < 2 ^ s := by
    have e : (c : Int) < ((2 ^ s : Nat) : Int) := by push_cast; exact hc'
    exact Int.ofNat_lt.1 e
  show IntKind.u64.wrap (((BitVec.ofInt 64 ((a : Int) * 2 ^ s) ||| BitVec.ofInt 64 (c : Int)).toNat : Nat) : Int) = _
  rw [or_low 64 a c s hc1 (by omega)]
  push_cast
  have : (0 : Int) ≤ (a : Int) * 2 ^ s := Int.mul_nonneg ha (Int.le_of_lt (Int.pow_pos (by omega)))
  exact wrap_u rfl (by omega) (by simp only [IntKind.bits]; exact h)
end

section
variable {P : Program} {r : Option Nat} {N : Nat} {D : List Nat} {B : Base} {all : Array Oper} {K : List (Nat × Ct) → St → Prop}
variable {i : Nat} {ops : List Oper} {tr : List (Nat × Ct)} {E : List (Nat × Ent)} {L : List (Nat × LO)} {n : Nat} {gn : List (Nat × Ent)}
variable {d ty : Nat} {pos : String} {aft : Array Edge}

/-- a call with objects: ids are their names here -/
theorem R.callX {f k : Nat} {fo : Operand} {args : Array Operand} {ats : Array TypeId} {es : List Ent} {lvs first cap : List LV} {out out' : LV} {Hi Hi' Ho Ho' : List (Nat × LO)} (ids : List Nat) (hc : LC P f ids.length lvs Hi out Ho k)
    (ho : all[i]? = some ⟨some d, .call { callee := .value fo, args := args, argTypes := ats }, ty, pos, aft, none⟩ := by rfl)
    (hf : lvOf (en E) fo = some (true, .fn (.func f) first cap) := by rfl)
    (hx : args.toList.map (lvOf (en E)) = es.map some := by rfl) (hes : first ++ es.map entLV ++ cap = LV.mapIs (sg ids n) lvs := by rfl) (hnd : ids.Nodup := by decide)
    (hout : out.mapI (sg ids n) = out' := by rfl) (hHi : (Hi.map fun p => (sg ids n p.1, p.2.mapI (sg ids n))) = Hi' := by rfl) (hHo : (Ho.map fun p => (sg ids n p.1, p.2.mapI (sg ids n))) = Ho' := by rfl)
    (hL : KeepL (hp L) Hi' := by repeat (first | exact trivial | refine ⟨rfl, ?_⟩))
    (h : Reg P r N D B all (i + 1) ops ((i, ⟨needOf (fo :: args.toList) ((true, .fn (.func f) first cap) :: es), some d, (true, out'), [], Hi', Ho', List.range' n k⟩) :: tr) (st ((d, (true, out')) :: E) (updL L Hi' Ho') (n + k)) K) :
    Reg P r N D B all i (⟨some d, .call { callee := .value fo, args := args, argTypes := ats }, ty, pos, aft, none⟩ :: ops) tr (st E L n) K := by
  have hl : (Oper.mk (some d) (.call { callee := .value fo, args := args, argTypes := ats }) ty pos aft none).op.operands.toList = fo :: args.toList := by simp [Op.operands, Go.Call.operands]
  have h2 := OpC.call (r := r) (n := n) (ids := ids) (k := k) (Ho := Ho) hc hnd (o := ⟨some d, .call { callee := .value fo, args := args, argTypes := ats }, ty, pos, aft, none⟩) rfl rfl (first := first) (cap := cap) (avs := es.map entLV) hes
  rw [hout, hHi, hHo] at h2
  refine Reg.gen (m := k) (es := (true, .fn (.func f) first cap) :: es) (rd := []) (Hi := Hi') (Ho := Ho') (out := out') ho gN (by rw [hl]; exact ⟨_, _, rfl, hf, Opnds.of_map hx⟩) (by simp) (fun o x hx => hL.get hx) h2 ?_
  rw [hl]
  exact h
end

end Go.Proofs.YtnamkhifmankmaaDoor

/- Slices of closed elements, as they are made. -/
namespace Go.Proofs.YtnamkhifmankmaaDoor

theorem OpC.tellNew {P : Program} {r : Option Nat} {o : Oper} {lvs : List LV} {rd : List (Nat × LO)} {out : LV} {n : Nat} {x y : LO} (h : OpC P r o lvs rd [] out [(n, x)] [n]) (hy : ∀ cx w, ObjOk cx w n x → ObjOk cx w n y) (hxy : y.isBx = x.isBx := by rfl) :
    OpC P r o lvs rd [] out [(n, y)] [n] := by
  refine ⟨fun p hp' => by simp at hp'; subst hp'; exact .inr (by simp), fun md n0 cx H a w K Q hok ham hrd hHi hnew hv hK => ?_⟩
  refine h.2 md n0 cx H a w K Q hok ham hrd hHi hnew hv (fun cx' w' v t hv' => hK cx' w' v ⟨t.le, t.A, t.grow, ?_, t.inn⟩ hv')
  have h2 := t.heap.tell (o := n) (by simp) (hy cx' w') hxy
  rw [tellH_hp] at h2
  exact h2

section
variable {P : Program} {r : Option Nat} {N : Nat} {D : List Nat} {B : Base} {Ψ : Exit → Act → World → Prop} {todo : List Item}
variable {E : List (Nat × Ent)} {L : List (Nat × LO)} {n : Nat}
/-- the slice in a slot is written no more -/
theorem LGo.frzT (t : Nat) {o T sz : Nat} {ys : List (List SV)} (ht : en E t = some (true, .ref o) := by rfl) (hb : hp L o = some (.rs T sz ys) := by rfl)
    (h : LGo P r N D B Ψ todo (st (frzE o (.sl sz ys) E) (delL o L) n)) : LGo P r N D B Ψ todo (st E L n) := LGo.frz o hb h
end

section
variable {P : Program} {r : Option Nat} {N : Nat} {D : List Nat} {B : Base} {all : Array Oper} {K : List (Nat × Ct) → St → Prop}
variable {i : Nat} {ops : List Oper} {tr : List (Nat × Ct)} {E : List (Nat × Ent)} {L : List (Nat × LO)} {n : Nat} {g : Bool} {gn : List (Nat × Ent)}
variable {d ty : Nat} {pos : String} {aft : Array Edge} {gd : Option (Nat × Bool)}

/-- a slice out of its elements, of one's own -/
theorem R.buildSliceR {t e sz : Nat} (hF : AppF P t e sz) {len : Nat} {parts : Array (Nat × Operand)} {xs : List Operand} {es : List Ent} {cs : List (List LV)} {ys : List (List SV)}
    (ho : all[i]? = some ⟨some d, .buildSlice t len parts, ty, pos, aft, none⟩ := by rfl) (hp' : parts.toList = xs.zipIdx.map (fun p => (p.2, p.1)) := by rfl)
    (hx : xs.map (lvOf (en E)) = es.map some := by rfl) (hcs : CellsOfs (es.map entLV) cs) (hys : cs.map (List.map unSv) = ys := by simp only [List.map_cons, List.map_nil, entLV, unSv]; rfl)
    (hsz : (cs.all fun c => c.length == sz) = true := by rfl) (hlen : cs.length = len := by rfl) (hy : cs = ys.map (List.map LV.sv) := by rfl)
    (hsm : len * sz ≤ 16777216 := by first | decide | omega) (hlm : len ≤ 16777216 := by first | decide | omega)
    (h : Reg P r N D B all (i + 1) ops ((i, ⟨needOf xs es, some d, (true, .ref n), [], [], [(n, .rs e sz ys)], [n]⟩) :: tr) (st ((d, (true, .ref n)) :: E) ((n, .rs e sz ys) :: L) (n + 1)) K) :
    Reg P r N D B all i (⟨some d, .buildSlice t len parts, ty, pos, aft, none⟩ :: ops) tr (st E L n) K := by
  have hl : (Oper.mk (some d) (.buildSlice t len parts) ty pos aft none).op.operands.toList = xs := by
    show (parts.toList.map (·.2)).toArray.toList = xs
    rw [hp']
    simp only [List.map_map, List.toList_toArray]
    have : ((fun (x : Nat × Operand) => x.2) ∘ fun (p : Operand × Nat) => (p.2, p.1)) = Prod.fst := rfl
    rw [this]; simp
  exact Reg.new (es := es) (rd := []) ho gN (by rw [hl]; exact Opnds.of_map hx) (by simp)
    (OpC.tellNew (OpC.buildSlice hF rfl (by simp) hp' hcs hsz hlen hsm hlm n) (fun cx w hx => ObjOk.row_rs (by rw [← hy]; exact hx))) (by rw [hl]; exact h)

end

end Go.Proofs.YtnamkhifmankmaaDoor
