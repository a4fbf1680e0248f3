/- The walk over the code of a function, on logical states: one rule for each form of code (each asks that what follows it holds). -/
import Derived.Test.YtmiamhegohlglaaC2
import Derived.TacticsIn
set_option linter.unusedSimpArgs false
set_option linter.unusedVariables false
namespace Go.Proofs.Ytmiamhegohlglaa

theorem fenced_FW (P : Program) (r : Option Nat) (m : Machine) : m.fenced P (FW r) := by
  have h := fenced_wide P m
  exact h

/-! ### operands and guards -/

/-- a constant -/
def cLV : Value → LV
  | .agg cs => .agg (cs.toList.map fun c => .sv (.val c))
  | v => .sv (.val v)

theorem vs_map_val (cx : Cx) (w : World) : ∀ l : List Value, Vs cx w (l.map fun c => .sv (.val c)) l
  | [] => by simp [Vs]
  | c :: l => by simp only [List.map_cons, Vs]; exact ⟨c, l, rfl, by simp [V, VS], vs_map_val cx w l⟩
theorem V.cLV (cx : Cx) (w : World) (v : Value) : V cx w (cLV v) v := by
  cases v <;> first
    | (simp only [Go.Proofs.Ytmiamhegohlglaa.cLV, V]; exact ⟨_, rfl, vs_map_val cx w _⟩)
    | simp [Go.Proofs.Ytmiamhegohlglaa.cLV, V, VS]

def lvOf (E : En) : Operand → Option Ent
  | .tmp t => E t
  | .const v => some (true, cLV v)
  | .global g => some (true, .sv (.val (.pointer (some ⟨g, 0, none⟩))))
  | .func f => some (true, .fn (.func f) [] [])

def needOf : List Operand → List Ent → List (Nat × Ent)
  | .tmp t :: xs, e :: es => (t, e) :: needOf xs es
  | _ :: xs, _ :: es => needOf xs es
  | _, _ => []

/-- es is what the operands hold, as E says -/
def Opnds (E : En) : List Operand → List Ent → Prop
  | [], es => es = []
  | x :: xs, es => ∃ e r, es = e :: r ∧ lvOf E x = some e ∧ Opnds E xs r

theorem Opnds.need {E : En} : ∀ {xs : List Operand} {es : List Ent}, Opnds E xs es → ∀ p ∈ needOf xs es, E p.1 = some p.2
  | [], es, h, p, hp => by simp [needOf] at hp
  | x :: xs, es, h, p, hp => by
    obtain ⟨e, r, rfl, h1, h2⟩ := h
    cases x with
    | tmp t =>
      simp only [needOf, List.mem_cons] at hp
      rcases hp with rfl | hp
      · exact h1
      · exact Opnds.need h2 p hp
    | const v => exact Opnds.need h2 p (by simpa [needOf] using hp)
    | func f => exact Opnds.need h2 p (by simpa [needOf] using hp)
    | _ => exact Opnds.need h2 p (by simpa [needOf] using hp)

theorem Opnds.transfer {E E' : En} : ∀ {xs : List Operand} {es : List Ent}, Opnds E xs es → (∀ p ∈ needOf xs es, E' p.1 = some p.2) → Opnds E' xs es
  | [], es, h, _ => h
  | x :: xs, es, h, hn => by
    obtain ⟨e, r, rfl, h1, h2⟩ := h
    cases x with
    | tmp t => exact ⟨e, r, rfl, hn (t, e) (by simp [needOf]), Opnds.transfer h2 (fun p hp => hn p (by simp [needOf, hp]))⟩
    | const v => exact ⟨e, r, rfl, h1, Opnds.transfer h2 (fun p hp => hn p (by simpa [needOf] using hp))⟩
    | func f => exact ⟨e, r, rfl, h1, Opnds.transfer h2 (fun p hp => hn p (by simpa [needOf] using hp))⟩
    | _ => exact ⟨e, r, rfl, h1, Opnds.transfer h2 (fun p hp => hn p (by simpa [needOf] using hp))⟩

theorem ent_of_lvOf {B : Base} {N : Nat} {D : List Nat} {S : St} {cx : Cx} {a : Act} {w : World} (hr : Rel B N D S cx a w) {x : Operand} {e : Ent}
    (h : lvOf S.E x = some e) : EntOk cx w e (a.eval x) := by
  cases x with
  | tmp t => exact hr.env t e h
  | const v => simp only [lvOf, Option.some.injEq] at h; subst h; exact ⟨fun _ => V.cLV cx w v, fun h => by cases h⟩
  | func f => simp only [lvOf, Option.some.injEq] at h; subst h; exact ⟨fun _ => by simp [V, Vs, Act.eval], fun h => by cases h⟩
  | _ => simp only [lvOf, Option.some.injEq] at h; subst h; exact ⟨fun _ => by simp [V, VS, Act.eval], fun h => by cases h⟩

theorem eval_of_lvOf {B : Base} {N : Nat} {D : List Nat} {S : St} {cx : Cx} {a : Act} {w : World} (hr : Rel B N D S cx a w) {x : Operand} {e : Ent}
    (h : lvOf S.E x = some e) (hv : e.1 = true) : V cx w e.2 (a.eval x) := by
  cases x with
  | tmp t => exact (hr.env t e h).1 hv
  | const v => simp only [lvOf, Option.some.injEq] at h; subst h; exact V.cLV cx w v
  | func f => simp only [lvOf, Option.some.injEq] at h; subst h; simp [V, Vs, Act.eval]
  | _ => simp only [lvOf, Option.some.injEq] at h; subst h; simp [V, VS, Act.eval]

/-- what an operand's entry says of its value, whatever its sign -/
def entLV (e : Ent) : LV := match e.1 with | true => e.2 | false => .sv (.val undef)

theorem EntOk.v {cx : Cx} {w : World} {e : Ent} {x : Value} (h : EntOk cx w e x) : V cx w (entLV e) x := by
  obtain ⟨g, l⟩ := e
  cases g with
  | true => exact h.1 rfl
  | false => have := h.2 rfl; simp [entLV, V, VS, this]

theorem Opnds.vs {B : Base} {N : Nat} {D : List Nat} {S : St} {cx : Cx} {a : Act} {w : World} (hr : Rel B N D S cx a w) :
    ∀ {xs : List Operand} {es : List Ent}, Opnds S.E xs es → Vs cx w (es.map entLV) (xs.map a.eval)
  | [], es, h => by simp [Opnds] at h; subst h; simp [Vs]
  | x :: xs, es, h => by
    obtain ⟨e, r, rfl, h1, h2⟩ := h
    simp only [List.map_cons, Vs]
    exact ⟨_, _, rfl, (ent_of_lvOf hr h1).v, Opnds.vs hr h2⟩

/-- the sign under which an operation is carried out, and the slot that it hangs on -/
def GuardOk (E : En) (all : Array Oper) (gd : Option (Nat × Bool)) (g : Bool) (gn : List (Nat × Ent)) : Prop :=
  match gd with
  | none => g = true ∧ gn = []
  | some (j, want) => ∃ dj gj b, (all[j]?).bind (·.dst) = some dj ∧ E dj = some (gj, .sv (.val (.bool b))) ∧ gn = [(dj, (gj, .sv (.val (.bool b))))] ∧ g = (gj && (b == want))

theorem GuardOk.wanted {B : Base} {N : Nat} {D : List Nat} {S : St} {cx : Cx} {a : Act} {w : World} (hr : Rel B N D S cx a w) {all : Array Oper} {o : Oper} {g : Bool} {gn : List (Nat × Ent)}
    (hN : ∀ (j d : Nat), (all[j]?).bind (fun (x : Oper) => x.dst) = some d → d < N) (h : GuardOk S.E all o.guard g gn) : Region.wanted o (yielded all a.tmps) = g := by
  unfold GuardOk at h
  unfold Region.wanted
  cases hg : o.guard with
  | none => rw [hg] at h; simp [h.1]
  | some p =>
    obtain ⟨j, want⟩ := p
    rw [hg] at h
    obtain ⟨dj, gj, b, h1, h2, h3, h4⟩ := h
    have hlt : dj < a.tmps.size := by rw [hr.size]; exact hN j dj h1
    have he := hr.env dj _ h2
    rw [Array.getD_eq_getD_getElem?, Array.getElem?_eq_getElem hlt] at he
    simp only [Option.getD_some] at he
    simp only [yielded, h1, Option.bind_some, Array.getElem?_eq_getElem hlt, h4]
    cases gj with
    | true =>
      have := he.1 rfl
      simp only [V, VS] at this
      rw [this]
      cases b <;> cases want <;> rfl
    | false =>
      have := he.2 rfl
      rw [this]
      cases want <;> rfl

theorem GuardOk.need {E : En} {all : Array Oper} {gd : Option (Nat × Bool)} {g : Bool} {gn : List (Nat × Ent)} (h : GuardOk E all gd g gn) : ∀ p ∈ gn, E p.1 = some p.2 := by
  unfold GuardOk at h
  cases gd with
  | none => simp [h.2]
  | some q =>
    obtain ⟨j, want⟩ := q
    obtain ⟨dj, gj, b, h1, h2, h3, h4⟩ := h
    rw [h3]; simp [h2]

theorem GuardOk.transfer {E E' : En} {all : Array Oper} {gd : Option (Nat × Bool)} {g : Bool} {gn : List (Nat × Ent)} (h : GuardOk E all gd g gn) (hn : ∀ p ∈ gn, E' p.1 = some p.2) : GuardOk E' all gd g gn := by
  unfold GuardOk at h ⊢
  cases gd with
  | none => simpa using h
  | some q =>
    obtain ⟨j, want⟩ := q
    obtain ⟨dj, gj, b, h1, h2, h3, h4⟩ := h
    exact ⟨dj, gj, b, h1, hn (dj, (gj, .sv (.val (.bool b)))) (by rw [h3]; simp), h3, h4⟩

theorem gN {E : En} {all : Array Oper} : GuardOk E all none true [] := ⟨rfl, rfl⟩
theorem gS {E : En} {all : Array Oper} {j dj : Nat} {want gj b : Bool} (h1 : (all[j]?).bind (fun (x : Oper) => x.dst) = some dj) (h2 : E dj = some (gj, .sv (.val (.bool b)))) :
    GuardOk E all (some (j, want)) (gj && (b == want)) [(dj, (gj, .sv (.val (.bool b))))] := ⟨dj, gj, b, h1, h2, rfl, rfl⟩

section
variable {P : Program} {r : Option Nat} {N : Nat} {D : List Nat} {B : Base} {all : Array Oper}

theorem Rel.step {S : St} {cx cx' : Cx} {a : Act} {w w' : World} (hr : Rel B N D S cx a w) {c : Ct} (hpre : c.pre S) (hN : ∀ d, c.d = some d → d < N)
    (t : Tr cx w (hp c.Hi) cx' w' (hp c.Ho) (· ∈ c.new)) (hdom : ∀ p ∈ c.Ho, p.1 ∈ c.Hi.map (·.1) ∨ p.1 ∈ c.new) {v : Value} (hv : EntOk cx' w' c.e v) :
    Rel B N D (c.app S) cx' (a.put c.d v) w' := by
  obtain ⟨p1, p2, p3, p4⟩ := hpre
  have hn0 : B.w.heap.size ≤ w.heap.size := hr.grow.size
  refine ⟨hr.grow.trans t.grow ?_, hr.le.trans t.le, ?_, ?_, ?_, ?_, ?_, fun o ho => (t.le o (hr.dA o ho)).1⟩
  · rintro b hb ⟨o, x, ho, hbk⟩
    rcases (hr.heap.own o x b (p3 o x ho) hbk).2.2 with h | h
    · omega
    · exact h
  · funext o
    have := t.A o
    rw [hr.hA] at this
    exact propext this
  · refine HOk.step hr.heap hn0 p3 t (fun o ho => by rw [hr.hA]; exact p4 o ho) (fun o x ho => ?_)
    obtain ⟨q, hq, rfl⟩ := List.mem_map.1 (lookup_mem ho)
    rcases hdom q hq with h | h
    · left
      obtain ⟨q', hq', he⟩ := List.mem_map.1 h
      cases hl : hp c.Hi q.1 with
      | some y => rfl
      | none =>
        exfalso
        have none_of : ∀ (l : List (Nat × LO)), l.lookup q.1 = none → q.1 ∉ l.map (·.1) := by
          intro l hl hm
          induction l with
          | nil => simp at hm
          | cons p l ih =>
            obtain ⟨k, v⟩ := p
            simp only [List.lookup_cons] at hl
            split at hl
            · cases hl
            · rename_i hk
              simp at hk
              simp only [List.map_cons, List.mem_cons] at hm
              rcases hm with hm | hm
              · exact hk hm
              · exact ih hl hm
        exact none_of _ hl h
    · exact .inr h
  · cases hd : c.d <;> simp [Act.put, hr.size]
  · intro s e hs
    simp only [Ct.app, putE] at hs
    split at hs
    · rename_i hd
      cases hs
      have hlt : s < a.tmps.size := by rw [hr.size]; exact hN s hd
      simp only [Act.put, hd, Array.getD_eq_getD_getElem?, Array.getElem?_setIfInBounds_self_of_lt hlt, Option.getD_some]
      exact hv
    · rename_i hd
      have := (hr.env s e hs).mono t.le t.grow.ext
      cases hc : c.d with
      | none => simpa [Act.put] using this
      | some d =>
        have hne : d ≠ s := fun h => hd (by rw [hc, h])
        simpa [Act.put, Array.getD_eq_getD_getElem?, Array.getElem?_setIfInBounds_ne hne] using this
  · have : D.map (mkd cx') = D.map (mkd cx) := List.map_congr_left (fun o ho => by simp only [mkd]; rw [(t.le o (hr.dA o ho)).2])
    rw [this]
    cases hd : c.d <;> simp [Act.put, hr.df]

theorem Tr.idle {md : Nat → Prop} {n0 : Nat} {H : Hp} {cx : Cx} {w : World} (h : HOk md n0 cx H w) : Tr cx w (hp []) cx w (hp []) (· ∈ ([] : List Nat)) :=
  ⟨CxLe.refl _, fun o => by simp, Grow.refl _ _ _, ⟨fun o x hx => by simp at hx, fun o x b hx => by simp at hx, fun o o' x x' b _ hx => by simp at hx, h.lim⟩, fun _ _ _ => rfl⟩

theorem CtOk.of_op {i : Nat} {o : Oper} {g : Bool} {es : List Ent} {out : LV} {rd Hi Ho : List (Nat × LO)} {new : List Nat} {gn : List (Nat × Ent)} {E : En}
    (ho : all[i]? = some o) (hN : ∀ (j d : Nat), (all[j]?).bind (fun (x : Oper) => x.dst) = some d → d < N) (hg : GuardOk E all o.guard g gn)
    (hop : g = true → OpC P r o (es.map entLV) rd Hi out Ho new) (hargs : Opnds E o.op.operands.toList es)
    (heff : g = true ∨ (Hi = [] ∧ Ho = [] ∧ new = [])) :
    CtOk P r N D B all i ⟨gn ++ needOf o.op.operands.toList es, o.dst, (g, out), rd, Hi, Ho, new⟩ := by
  intro S cx a w K Q hpre hrel hK
  have hpre' := hpre
  obtain ⟨p1, p2, p3, p4⟩ := hpre
  have hg' : GuardOk S.E all o.guard g gn := hg.transfer (fun p hp => p1 p (List.mem_append_left _ hp))
  have ha' : Opnds S.E o.op.operands.toList es := hargs.transfer (fun p hp => p1 p (List.mem_append_right _ hp))
  have hw := hg'.wanted hrel hN
  have hd : ∀ d, o.dst = some d → d < N := fun d h => hN i d (by rw [ho]; exact h)
  unfold wpOpIn
  simp only [ho, hw]
  cases hgv : g with
  | true =>
    subst hgv
    simp only [if_true]
    obtain ⟨hdom, hc⟩ := hop rfl
    refine hc _ _ cx S.H a w K Q hrel.heap p2 p3 (fun i hi => by rw [hrel.hA]; exact p4 i hi) (ha'.vs hrel) (fun cx' w' v t hv => ?_)
    exact hK _ _ _ (Rel.step hrel hpre' hd t hdom ⟨fun _ => hv, fun h => (by cases h)⟩)
  | false =>
    subst hgv
    simp only [Bool.false_eq_true, if_false]
    refine ⟨fun _ _ => trivial, ?_⟩
    rcases heff with h | ⟨rfl, rfl, rfl⟩
    · cases h
    · exact hK cx _ w (Rel.step hrel hpre' hd (Tr.idle hrel.heap) (by simp) ⟨fun h => (by cases h), fun _ => rfl⟩)

end

/-! ### regions, an operation after the other -/

/-- what every operation of a region must meet, asked once for the region -/
structure RegOk (N : Nat) (all : Array Oper) : Prop where
  dst : ∀ (j d : Nat), (all[j]?).bind (fun (x : Oper) => x.dst) = some d → d < N

def dstB (N : Nat) (all : Array Oper) : Bool := all.toList.all fun o => match o.dst with | some d => decide (d < N) | none => true
theorem RegOk.of {N : Nat} {all : Array Oper} (h : dstB N all = true) : RegOk N all := by
  refine ⟨fun j d hd => ?_⟩
  unfold dstB at h
  rw [List.all_eq_true] at h
  cases hj : all[j]? with
  | none => simp [hj] at hd
  | some o =>
    rw [hj] at hd
    simp only [Option.bind_some] at hd
    have := h o (by have := Array.mem_of_getElem? hj; simpa using this)
    rw [hd] at this
    simpa using this

structure Reg (P : Program) (r : Option Nat) (N : Nat) (D : List Nat) (B : Base) (all : Array Oper) (i : Nat) (ops : List Oper) (tr : List (Nat × Ct)) (S : St)
    (K : List (Nat × Ct) → St → Prop) : Prop where
  go : RegOk N all → ∃ l S', l.map (·.1) = List.range' i ops.length ∧ Chain P r N D B all l S S' ∧ K (tr.reverse ++ l) S'

/-- a state in lists: slots, objects, how many names of objects have been given -/
abbrev st (E : List (Nat × Ent)) (L : List (Nat × LO)) (n : Nat) : St := ⟨en E, hp L, fun o => o < n⟩

def putL (d : Option Nat) (e : Ent) (E : List (Nat × Ent)) : List (Nat × Ent) := match d with | some d => (d, e) :: E | none => E

theorem putE_putL (d : Option Nat) (e : Ent) (E : List (Nat × Ent)) : putE d e (en E) = en (putL d e E) := by
  funext t
  cases d with
  | none => simp [putE, putL]
  | some d =>
    simp only [putE, putL, en, List.lookup_cons, Option.some.injEq]
    by_cases h : t = d
    · subst h; simp
    · have h' : ¬ d = t := fun e => h e.symm
      have h2 : (t == d) = false := by simp [h]
      rw [if_neg h', h2]

section
variable {P : Program} {r : Option Nat} {N : Nat} {D : List Nat} {B : Base} {all : Array Oper} {K : List (Nat × Ct) → St → Prop}

theorem Reg.nil {i : Nat} {tr : List (Nat × Ct)} {S : St} (h : K tr.reverse S) : Reg P r N D B all i [] tr S K :=
  ⟨fun _ => ⟨[], S, by simp, .nil S, by simpa using h⟩⟩

theorem Reg.cons {i : Nat} {o : Oper} {ops : List Oper} {tr : List (Nat × Ct)} {S : St} {c : Ct} (hc : RegOk N all → CtOk P r N D B all i c) (hp : c.pre S)
    (h : Reg P r N D B all (i + 1) ops ((i, c) :: tr) (c.app S) K) : Reg P r N D B all i (o :: ops) tr S K := by
  refine ⟨fun hN => ?_⟩
  obtain ⟨l, S', h1, h2, h3⟩ := h.go hN
  refine ⟨(i, c) :: l, S', ?_, .cons (hc hN) hp h2, by simpa using h3⟩
  simp [h1, List.range'_succ]

/-- an operation that leaves the objects alone -/
theorem Reg.pure {i : Nat} {o : Oper} {ops : List Oper} {tr : List (Nat × Ct)} {E : List (Nat × Ent)} {L : List (Nat × LO)} {n : Nat} {g : Bool} {es : List Ent} {out : LV} {rd : List (Nat × LO)} {gn : List (Nat × Ent)}
    (ho : all[i]? = some o) (hg : GuardOk (en E) all o.guard g gn) (hargs : Opnds (en E) o.op.operands.toList es) 
    (hrd : ∀ k x, hp rd k = some x → hp L k = some x) (hop : g = true → OpC P r o (es.map entLV) rd [] out [] [])
    (h : Reg P r N D B all (i + 1) ops ((i, ⟨gn ++ needOf o.op.operands.toList es, o.dst, (g, out), rd, [], [], []⟩) :: tr) (st (putL o.dst (g, out) E) L n) K) :
    Reg P r N D B all i (o :: ops) tr (st E L n) K := by
  refine Reg.cons (fun hN => CtOk.of_op ho hN.dst hg hop hargs (.inr ⟨rfl, rfl, rfl⟩)) ⟨fun p hp => ?_, hrd, fun o x hx => by simp at hx, fun i hi => by simp at hi⟩ ?_
  · rcases List.mem_append.1 hp with hp | hp
    · exact hg.need p hp
    · exact hargs.need p hp
  · have : (Ct.app ⟨gn ++ needOf o.op.operands.toList es, o.dst, (g, out), rd, [], [], []⟩ (st E L n)) = st (putL o.dst (g, out) E) L n := by
      simp only [Ct.app, putE_putL]
      congr 1
      funext o; simp
    rw [this]; exact h

/-- an operation that takes the objects of Hi and leaves those of Ho, 'new' among them -/
def updL (L Hi Ho : List (Nat × LO)) : List (Nat × LO) := Ho ++ L.filter (fun p => !((Hi.map (·.1)).contains p.1))

theorem lookup_append' {l l' : List (Nat × LO)} {o : Nat} : (l ++ l').lookup o = match l.lookup o with | some x => some x | none => l'.lookup o := by
  induction l with
  | nil => simp
  | cons p l ih =>
    obtain ⟨k, v⟩ := p
    simp only [List.cons_append, List.lookup_cons]
    split
    · rfl
    · exact ih

theorem lookup_filter {l : List (Nat × LO)} {o : Nat} (q : Nat → Bool) : (l.filter (fun p => q p.1)).lookup o = if q o then l.lookup o else none := by
  induction l with
  | nil => simp
  | cons p l ih =>
    obtain ⟨k, v⟩ := p
    simp only [List.filter_cons]
    cases hk : q k with
    | true =>
      simp only [if_true, List.lookup_cons]
      cases he : (o == k) with
      | true => have he' : o = k := by simpa using he
                subst he'; simp [hk]
      | false => exact ih
    | false =>
      simp only [Bool.false_eq_true, if_false, List.lookup_cons]
      cases he : (o == k) with
      | true => have he' : o = k := by simpa using he
                subst he'; rw [ih]; simp [hk]
      | false => exact ih

theorem upd_updL (L Hi Ho : List (Nat × LO)) : (hp L).upd (hp Hi) (hp Ho) = hp (updL L Hi Ho) := by
  funext o
  simp only [Hp.upd, updL, hp, lookup_append']
  cases h1 : Ho.lookup o with
  | some x => rfl
  | none =>
    simp only []
    rw [lookup_filter (fun k => !((Hi.map (·.1)).contains k))]
    cases h2 : Hi.lookup o with
    | some y =>
      have := lookup_mem h2
      simp [this]
    | none =>
      have : o ∉ Hi.map (·.1) := by
        intro hm
        induction Hi with
        | nil => simp at hm
        | cons p l ih =>
          obtain ⟨k, v⟩ := p
          simp only [List.lookup_cons] at h2
          split at h2
          · cases h2
          · rename_i hk
            simp at hk
            simp only [List.map_cons, List.mem_cons] at hm
            rcases hm with hm | hm
            · exact hk hm
            · exact ih h2 hm
      simp [this]

theorem Reg.gen {i : Nat} {o : Oper} {ops : List Oper} {tr : List (Nat × Ct)} {E : List (Nat × Ent)} {L : List (Nat × LO)} {n m : Nat} {es : List Ent} {out : LV} {rd Hi Ho : List (Nat × LO)} {gn : List (Nat × Ent)}
    (ho : all[i]? = some o) (hg : GuardOk (en E) all o.guard true gn) (hargs : Opnds (en E) o.op.operands.toList es) 
    (hrd : ∀ k x, hp rd k = some x → hp L k = some x) (hHi : ∀ k x, hp Hi k = some x → hp L k = some x) (hop : OpC P r o (es.map entLV) rd Hi out Ho (List.range' n m))
    (h : Reg P r N D B all (i + 1) ops ((i, ⟨gn ++ needOf o.op.operands.toList es, o.dst, (true, out), rd, Hi, Ho, List.range' n m⟩) :: tr) (st (putL o.dst (true, out) E) (updL L Hi Ho) (n + m)) K) :
    Reg P r N D B all i (o :: ops) tr (st E L n) K := by
  refine Reg.cons (fun hN => CtOk.of_op ho hN.dst hg (fun _ => hop) hargs (.inl rfl)) ⟨fun p hp => ?_, hrd, hHi, fun i hi => ?_⟩ ?_
  · rcases List.mem_append.1 hp with hp | hp
    · exact hg.need p hp
    · exact hargs.need p hp
  · simp only [List.mem_range'_1] at hi; simp only []; omega
  · have : (Ct.app ⟨gn ++ needOf o.op.operands.toList es, o.dst, (true, out), rd, Hi, Ho, List.range' n m⟩ (st E L n)) = st (putL o.dst (true, out) E) (updL L Hi Ho) (n + m) := by
      simp only [Ct.app, putE_putL, upd_updL]
      congr 1
      funext o
      simp only [List.mem_range'_1, eq_iff_iff]
      omega
    rw [this]; exact h

end

/-! ### the code -/

structure LGo (P : Program) (r : Option Nat) (N : Nat) (D : List Nat) (B : Base) (Ψ : Exit → Act → World → Prop) (todo : List Item) (S : St) : Prop where
  go : ∀ (cx : Cx) (a : Act) (w : World), Rel B N D S cx a w → ∀ (b : Frame) (k : List Item) (cs : List Frame), b.roundOf = r →
    ∃ e a' w', Ψ e a' w' ∧ ArrivesIn (Machine.fenced P (FW r)) P (lone (b.atR a (todo ++ k)) cs w) b k cs e a' w'

section
variable {P : Program} {r : Option Nat} {N : Nat} {D : List Nat} {B : Base} {Ψ : Exit → Act → World → Prop} {todo : List Item} {S : St}

theorem LGo.step {todo' : List Item} (hs : ∀ (b : Frame) (a : Act) (k : List Item) (cs : List Frame) (w : World), step P (lone (b.atR a (todo ++ k)) cs w) = .next (lone (b.atR a (todo' ++ k)) cs w))
    (h : LGo P r N D B Ψ todo' S) : LGo P r N D B Ψ todo S := by
  refine ⟨fun cx a w hr b k cs hb => ?_⟩
  obtain ⟨e, a', w', hq, harr⟩ := h.go cx a w hr b k cs hb
  exact ⟨e, a', w', hq, .of_steps (.one (fenced_FW P r _) (hs b a k cs w)) harr⟩

theorem LGo.seq {x y : Code} (h : LGo P r N D B Ψ (.code x :: .code y :: todo) S) : LGo P r N D B Ψ (.code (.seq x y) :: todo) S := LGo.step (fun _ _ _ _ _ => stepR_seq) h
theorem LGo.skip (h : LGo P r N D B Ψ todo S) : LGo P r N D B Ψ (.code .skip :: todo) S := LGo.step (fun _ _ _ _ _ => stepR_skip) h
theorem LGo.label {l : Nat} (h : LGo P r N D B Ψ todo S) : LGo P r N D B Ψ (.code (.label l) :: todo) S := LGo.step (fun _ _ _ _ _ => stepR_label) h
theorem LGo.inBlock {i : Nat} (h : LGo P r N D B Ψ todo S) : LGo P r N D B Ψ (.inBlock i :: todo) S := LGo.step (fun _ _ _ _ _ => stepR_inBlock) h
theorem LGo.block {i : Nat} {c : Code} (h : LGo P r N D B Ψ (.code c :: .inBlock i :: todo) S) : LGo P r N D B Ψ (.code (.block i c) :: todo) S := LGo.step (fun _ _ _ _ _ => stepR_block) h
theorem LGo.loop {c : Code} (h : LGo P r N D B Ψ (.code c :: .inLoop c :: todo) S) : LGo P r N D B Ψ (.code (.loop c) :: todo) S := LGo.step (fun _ _ _ _ _ => stepR_loop) h
theorem LGo.inLoop {c : Code} (h : LGo P r N D B Ψ (.code c :: .inLoop c :: todo) S) : LGo P r N D B Ψ (.inLoop c :: todo) S := LGo.step (fun _ _ _ _ _ => stepR_inLoop) h

theorem exitTo_append {id : Nat} : ∀ {l k l' : List Item}, exitTo id l = some l' → exitTo id (l ++ k) = some (l' ++ k)
  | [], k, l', h => by simp [exitTo] at h
  | x :: l, k, l', h => by
    cases x with
    | inBlock i =>
      simp only [exitTo, List.cons_append] at h ⊢
      split at h
      · rename_i hh; cases h; simp [hh]
      · rename_i hh; simp only [hh]; exact exitTo_append h
    | _ => simp only [exitTo, List.cons_append] at h ⊢; exact exitTo_append h
theorem exitTo_append_none {id : Nat} : ∀ {l k : List Item}, exitTo id l = none → exitTo id (l ++ k) = exitTo id k
  | [], k, h => rfl
  | x :: l, k, h => by
    cases x with
    | inBlock i =>
      simp only [exitTo, List.cons_append] at h ⊢
      split at h
      · cases h
      · rename_i hh; simp only [hh]; exact exitTo_append_none h
    | _ => simp only [exitTo, List.cons_append] at h ⊢; exact exitTo_append_none h
theorem gotoIn_append {id : Nat} : ∀ {l k l' : List Item}, gotoIn id l = some l' → gotoIn id (l ++ k) = some (l' ++ k)
  | [], k, l', h => by simp [gotoIn] at h
  | x :: l, k, l', h => by
    cases x with
    | inScope i =>
      simp only [gotoIn, List.cons_append] at h ⊢
      split at h
      · rename_i hh; cases h; simp
      · exact gotoIn_append h
    | _ => simp only [gotoIn, List.cons_append] at h ⊢; exact gotoIn_append h

theorem LGo.exit {id : Nat} {k' : List Item} (hk : exitTo id todo = some k') (h : LGo P r N D B Ψ k' S) : LGo P r N D B Ψ (.code (.exit id) :: todo) S :=
  LGo.step (fun _ _ _ _ _ => stepR_exit (exitTo_append hk)) h
theorem LGo.goto {l : Nat} {k' : List Item} (hk : gotoIn l todo = some k') (h : LGo P r N D B Ψ k' S) : LGo P r N D B Ψ (.code (.goto l) :: todo) S :=
  LGo.step (fun _ _ _ _ _ => stepR_goto (gotoIn_append hk)) h
theorem LGo.exitOut {id : Nat} (hk : exitTo id todo = none) (h : ∀ cx a w, Rel B N D S cx a w → Ψ (.exit id) a w) : LGo P r N D B Ψ (.code (.exit id) :: todo) S := by
  refine ⟨fun cx a w hr b k cs hb => ?_⟩
  refine ⟨.exit id, a, w, h _ _ _ hr, fun k' hk' => .one (fenced_FW P r _) (stepR_exit ?_), fun _ hn => ⟨todo ++ k, ?_, .refl _⟩⟩
  · exact (exitTo_append_none hk).trans hk'
  · exact (exitTo_append_none hk).trans hn
theorem LGo.ret (h : ∀ cx a w, Rel B N D S cx a w → Ψ .ret a w) : LGo P r N D B Ψ (.code .ret :: todo) S := by
  refine ⟨fun cx a w hr b k cs hb => ?_⟩
  exact ⟨.ret, a, w, h _ _ _ hr, fun hn => ⟨_, .one (fenced_FW P r _) (stepR_ret hn)⟩, fun _ => ⟨todo ++ k, .refl _⟩⟩
theorem LGo.done (h : ∀ cx a w, Rel B N D S cx a w → Ψ .normal a w) : LGo P r N D B Ψ [] S := by
  refine ⟨fun cx a w hr b k cs hb => ?_⟩
  exact ⟨.normal, a, w, h _ _ _ hr, .refl _⟩

theorem LGo.scope {c : Code} (h : LGo P r N D B Ψ (.code c :: .inScope c :: todo) S) : LGo P r N D B Ψ (.code (.scope c) :: todo) S :=
  LGo.step (fun b a k cs w => step_lone_go (by simp [stepG, stepG.exec, Frame.atR])) h
theorem LGo.inScope {c : Code} (h : LGo P r N D B Ψ todo S) : LGo P r N D B Ψ (.inScope c :: todo) S :=
  LGo.step (fun b a k cs w => step_lone_go (by simp [stepG, stepG.exec, Frame.atR])) h

theorem LGo.cond {c : Operand} {x y : Code} {t : Bool} (hc : lvOf S.E c = some (true, .sv (.val (.bool t)))) (ht : t = true → LGo P r N D B Ψ (.code x :: todo) S)
    (hf : t = false → LGo P r N D B Ψ (.code y :: todo) S) : LGo P r N D B Ψ (.code (.cond c x y) :: todo) S := by
  refine ⟨fun cx a w hr b k cs hb => ?_⟩
  have he : a.eval c = .bool t := by have := eval_of_lvOf hr hc rfl; simpa [V, VS] using this
  cases t with
  | true =>
    obtain ⟨e, a', w', hq, harr⟩ := (ht rfl).go cx a w hr b k cs hb
    exact ⟨e, a', w', hq, .of_steps (.one (fenced_FW P r _) (stepR_cond he)) harr⟩
  | false =>
    obtain ⟨e, a', w', hq, harr⟩ := (hf rfl).go cx a w hr b k cs hb
    exact ⟨e, a', w', hq, .of_steps (.one (fenced_FW P r _) (stepR_cond he)) harr⟩

theorem LGo.region {id : Nat} {ops : List Oper} {draw : Bool} (hN : dstB N ops.toArray = true)
    (h : Reg P r N D B ops.toArray 0 ops [] S (fun tr S' => (draw = true → P.follows .mixedOrders = true ∧ edgesOk ops.toArray = true ∧ pairsOk ops.toArray tr = true) ∧ LGo P r N D B Ψ todo S')) :
    LGo P r N D B Ψ (.code (.region id ops.toArray draw) :: todo) S := by
  obtain ⟨all, hall⟩ : ∃ all : Array Oper, all = ops.toArray := ⟨_, rfl⟩
  have hops : ops = all.toList := by rw [hall]
  rw [← hall] at h hN ⊢
  rw [hops] at h
  clear hall hops ops
  refine ⟨fun cx a w hr b k cs hb => ?_⟩
  obtain ⟨l, S', h1, h2, h3, h4⟩ := h.go (RegOk.of hN)
  simp only [List.reverse_nil, List.nil_append] at h3
  have hrange : List.range all.size = l.map (·.1) := by rw [h1, List.range_eq_range']; simp
  have key : (Code.region id all draw).wpIn (FW r) 0 P (fun e a w => e = .normal ∧ ∃ cx, Rel B N D S' cx a w) a w := by
    cases draw with
    | false =>
      refine wpIn_region ?_
      rw [hrange]
      exact region_text_order (fun cx a w hr => ⟨rfl, cx, hr⟩) l S cx a w h2 hr
    | true =>
      obtain ⟨k1, k2, k3⟩ := h3 rfl
      refine wpIn_region_any k1 ?_
      have hl : l.length = all.size := by have := congrArg List.length h1; simpa using this
      have hr' : Rel B N D S cx a { w with drawn := w.drawn + 1 } :=
        ⟨⟨hr.grow.os, hr.grow.tape, hr.grow.output, hr.grow.size, hr.grow.same, hr.grow.prs, hr.grow.ext⟩, hr.le, hr.hA,
          ⟨fun o x hx => ⟨(hr.heap.ok o x hx).1, ObjOk.mono (w := w) (w' := { w with drawn := w.drawn + 1 }) (CxLe.refl _) (fun b off hb => ⟨hb, rfl⟩) (hr.heap.ok o x hx).1 (fun _ _ _ => rfl) rfl (hr.heap.ok o x hx).2⟩, hr.heap.own, hr.heap.inj, hr.heap.lim⟩, hr.size,
          fun t e he => EntOk.mono (w := w) (w' := { w with drawn := w.drawn + 1 }) (h := hr.env t e he) (CxLe.refl _) (fun b off hb => ⟨hb, rfl⟩), hr.df, hr.dA⟩
      refine region_any_order k2 (fun cx a w hr => ⟨rfl, cx, hr⟩) all.size l _ S cx a _ (by omega) (by simp) ?_ ?_ ?_ ?_ k3 h2 hr'
      · rw [← hrange]; exact List.pairwise_lt_range
      · intro i hi
        rw [← hrange]
        simp [Array.getD_eq_getD_getElem?, hi]
      · rw [← hrange]; simp
      · intro k hk
        simp only [Array.getD_eq_getD_getElem?, Array.getElem?_replicate] at hk
        split at hk <;> simp at hk
  obtain ⟨e, a', w', ⟨rfl, cx', hr'⟩, harr⟩ := key b (todo ++ k) cs hb trivial (by intro d hd; simp [FW, Fence.wide] at hd)
  obtain ⟨e2, a2, w2, hq2, harr2⟩ := h4.go cx' a' w' hr' b k cs hb
  exact ⟨e2, a2, w2, hq2, .of_steps harr harr2⟩

/-- another state that says no more -/
theorem LGo.conv {S' : St} (hc : ∀ cx a w, Rel B N D S cx a w → ∃ cx', Rel B N D S' cx' a w) (h : LGo P r N D B Ψ todo S') : LGo P r N D B Ψ todo S := by
  refine ⟨fun cx a w hr b k cs hb => ?_⟩
  obtain ⟨cx', hr'⟩ := hc cx a w hr
  exact h.go cx' a w hr' b k cs hb

end

end Go.Proofs.Ytmiamhegohlglaa
