/- What the slots of a frame hold; the contract of one operation; a region in whatever order its edges allow comes to what it comes to in the order of the text (its conditions: each operation's contract along the text's order; operations that no edge orders touch nothing in common). -/
import Derived.Test.YtmiamhegohlglaaC1
set_option linter.unusedSimpArgs false
set_option linter.unusedVariables false
namespace Go.Proofs.Ytmiamhegohlglaa

abbrev Ent := Bool × LV
abbrev En := Nat → Option Ent

structure Base where
  cx : Cx
  w : World
  md : Nat → Prop

structure St where
  E : En
  H : Hp
  A : Nat → Prop

/-- the mark of a block of deferred calls -/
def mkd (cx : Cx) (o : Nat) : Deferred := { target := .collected ((bk (cx.loc o)).getD 0), args := #[] }

structure Rel (B : Base) (N : Nat) (D : List Nat) (S : St) (cx : Cx) (a : Act) (w : World) : Prop where
  grow : Grow B.md B.cx.pr B.w cx.pr w
  le : CxLe B.cx cx
  hA : cx.A = S.A
  heap : HOk B.md B.w.heap.size cx S.H w
  size : a.tmps.size = N
  env : ∀ t e, S.E t = some e → EntOk cx w e (a.tmps.getD t undef)
  df : a.defers = D.map (mkd cx)
  dA : ∀ o ∈ D, cx.A o

abbrev FW (r : Option Nat) : Fence := { Fence.wide with round := r }

abbrev hp (l : List (Nat × LO)) : Hp := fun o => l.lookup o
abbrev en (l : List (Nat × Ent)) : En := fun t => l.lookup t

/-- the contract of one operation -/
def OpC (P : Program) (r : Option Nat) (o : Oper) (lvs : List LV) (rd Hi : List (Nat × LO)) (out : LV) (Ho : List (Nat × LO)) (new : List Nat) : Prop :=
  (∀ p ∈ Ho, p.1 ∈ Hi.map (·.1) ∨ p.1 ∈ new) ∧
  ∀ (md : Nat → Prop) (n0 : Nat) (cx : Cx) (H : Hp) (a : Act) (w : World) (K : Act → World → Prop) (Q : Exit → Act → World → Prop),
    HOk md n0 cx H w → (∀ o x, hp rd o = some x → H o = some x) → (∀ o x, hp Hi o = some x → H o = some x) → (∀ i ∈ new, ¬ cx.A i) →
    Vs cx w lvs (o.op.operands.toList.map a.eval) →
    (∀ cx' w' v, Tr cx w (hp Hi) cx' w' (hp Ho) (· ∈ new) → V cx' w' out v → K (a.put o.dst v) w') →
    o.wpIn (FW r) 0 P a w K Q

/-- a contract at its place in a region -/
structure Ct where
  need : List (Nat × Ent)
  d : Option Nat
  e : Ent
  rd : List (Nat × LO)
  Hi : List (Nat × LO)
  Ho : List (Nat × LO)
  new : List Nat

def Ct.pre (c : Ct) (S : St) : Prop :=
  (∀ p ∈ c.need, S.E p.1 = some p.2) ∧ (∀ o x, hp c.rd o = some x → S.H o = some x) ∧ (∀ o x, hp c.Hi o = some x → S.H o = some x) ∧ (∀ i ∈ c.new, ¬ S.A i)

def putE (d : Option Nat) (e : Ent) (E : En) : En := fun t => if d = some t then some e else E t

def Ct.app (c : Ct) (S : St) : St := ⟨putE c.d c.e S.E, S.H.upd (hp c.Hi) (hp c.Ho), fun o => S.A o ∨ o ∈ c.new⟩

def CtOk (P : Program) (r : Option Nat) (N : Nat) (D : List Nat) (B : Base) (all : Array Oper) (i : Nat) (c : Ct) : Prop :=
  ∀ (S : St) (cx : Cx) (a : Act) (w : World) (K : Act → World → Prop) (Q : Exit → Act → World → Prop), c.pre S → Rel B N D S cx a w →
    (∀ cx' a' w', Rel B N D (c.app S) cx' a' w' → K a' w') → wpOpIn (FW r) 0 P all Q i K a w

def Ct.sl (c : Ct) : List Nat := c.need.map (·.1)
def Ct.rdi (c : Ct) : List Nat := c.rd.map (·.1)
def Ct.wri (c : Ct) : List Nat := c.Hi.map (·.1) ++ (c.Ho.map (·.1) ++ c.new)

def indep (c d : Ct) : Bool :=
  (match c.d with | some x => !(d.sl.contains x) && d.d != some x | none => true) &&
  (match d.d with | some x => !(c.sl.contains x) | none => true) &&
  c.wri.all (fun o => !(d.wri.contains o) && !(d.rdi.contains o)) && d.wri.all (fun o => !(c.rdi.contains o))

theorem lookup_mem {α : Type} {l : List (Nat × α)} {o : Nat} {x : α} (h : l.lookup o = some x) : o ∈ l.map (·.1) := by
  induction l with
  | nil => simp at h
  | cons p l ih =>
    obtain ⟨k, v⟩ := p
    simp only [List.lookup_cons] at h
    split at h
    · rename_i hk; simp at hk; simp [hk]
    · simp [ih h]

theorem indep_spec {c d : Ct} (h : indep c d = true) :
    (∀ x, c.d = some x → x ∉ d.sl ∧ d.d ≠ some x) ∧ (∀ x, d.d = some x → x ∉ c.sl) ∧
    (∀ o ∈ c.wri, o ∉ d.wri ∧ o ∉ d.rdi) ∧ (∀ o ∈ d.wri, o ∉ c.rdi) := by
  unfold indep at h
  simp only [Bool.and_eq_true, List.all_eq_true, Bool.not_eq_true', List.contains_eq_mem, decide_eq_false_iff_not] at h
  obtain ⟨⟨⟨h1, h2⟩, h3⟩, h4⟩ := h
  refine ⟨fun x hx => ?_, fun x hx => ?_, h3, h4⟩
  · rw [hx] at h1; simpa using h1
  · rw [hx] at h2; simpa using h2

theorem upd_other {H : Hp} {Hi Ho : List (Nat × LO)} {o : Nat} (h1 : o ∉ Hi.map (·.1)) (h2 : o ∉ Ho.map (·.1)) : (H.upd (hp Hi) (hp Ho)) o = H o := by
  unfold Hp.upd
  have e1 : hp Ho o = none := by
    cases hx : hp Ho o with
    | none => rfl
    | some x => exact absurd (lookup_mem hx) h2
  have e2 : hp Hi o = none := by
    cases hx : hp Hi o with
    | none => rfl
    | some x => exact absurd (lookup_mem hx) h1
  rw [e1, e2]

theorem upd_own {H H' : Hp} {Hi Ho : List (Nat × LO)} {o : Nat} (h : o ∈ Hi.map (·.1) ∨ o ∈ Ho.map (·.1)) (hh : o ∈ Ho.map (·.1) ∨ o ∈ Hi.map (·.1) → True) :
    (H.upd (hp Hi) (hp Ho)) o = (H'.upd (hp Hi) (hp Ho)) o := by
  unfold Hp.upd
  cases hx : hp Ho o with
  | some x => rfl
  | none =>
    cases hy : hp Hi o with
    | some y => rfl
    | none =>
      exfalso
      have none_of : ∀ (l : List (Nat × LO)), l.lookup o = none → o ∉ l.map (·.1) := by
        intro l hl hm
        induction l with
        | nil => simp at hm
        | cons p l ih =>
          obtain ⟨k, v⟩ := p
          simp only [List.lookup_cons] at hl
          split at hl
          · cases hl
          · rename_i hk
            simp at hk
            simp only [List.map_cons, List.mem_cons] at hm
            rcases hm with hm | hm
            · exact hk hm
            · exact ih hl hm
      rcases h with h | h
      · exact none_of _ hy h
      · exact none_of _ hx h

theorem Ct.swap {c d : Ct} {S : St} (hi : indep c d = true) (hc : c.pre S) (hd : d.pre (c.app S)) :
    d.pre S ∧ c.pre (d.app S) ∧ d.app (c.app S) = c.app (d.app S) := by
  obtain ⟨h1, h2, h3, h4⟩ := indep_spec hi
  obtain ⟨c1, c2, c3, c4⟩ := hc
  obtain ⟨d1, d2, d3, d4⟩ := hd
  have memwri : ∀ {c : Ct} {o : Nat}, o ∈ c.wri ↔ o ∈ c.Hi.map (·.1) ∨ o ∈ c.Ho.map (·.1) ∨ o ∈ c.new := by intro c o; simp [Ct.wri, or_assoc]
  refine ⟨⟨fun p hp' => ?_, fun o x ho => ?_, fun o x ho => ?_, fun i hi' => ?_⟩, ⟨fun p hp' => ?_, fun o x ho => ?_, fun o x ho => ?_, fun i hi' => ?_⟩, ?_⟩
  · have hx := d1 p hp'
    simp only [Ct.app, putE] at hx
    split at hx
    · rename_i he
      exact absurd (List.mem_map.2 ⟨p, hp', rfl⟩) (h1 _ he).1
    · exact hx
  · have hm : o ∈ d.rdi := lookup_mem ho
    have hx := d2 o x ho
    have hno : o ∉ c.wri := fun hw => (h3 o hw).2 hm
    rw [memwri] at hno
    simp only [Ct.app] at hx
    rwa [upd_other (fun h => hno (.inl h)) (fun h => hno (.inr (.inl h)))] at hx
  · have hm : o ∈ d.wri := memwri.2 (.inl (lookup_mem ho))
    have hx := d3 o x ho
    have hno : o ∉ c.wri := fun hw => (h3 o hw).1 hm
    rw [memwri] at hno
    simp only [Ct.app] at hx
    rwa [upd_other (fun h => hno (.inl h)) (fun h => hno (.inr (.inl h)))] at hx
  · exact fun hA => d4 i hi' (.inl hA)
  · have hx := c1 p hp'
    simp only [Ct.app, putE]
    split
    · rename_i he
      exact absurd (List.mem_map.2 ⟨p, hp', rfl⟩) (h2 _ he)
    · exact hx
  · have hm : o ∈ c.rdi := lookup_mem ho
    have hno : o ∉ d.wri := fun hw => h4 o hw hm
    rw [memwri] at hno
    simp only [Ct.app]
    rw [upd_other (fun h => hno (.inl h)) (fun h => hno (.inr (.inl h)))]
    exact c2 o x ho
  · have hm : o ∈ c.wri := memwri.2 (.inl (lookup_mem ho))
    have hno : o ∉ d.wri := (h3 o hm).1
    rw [memwri] at hno
    simp only [Ct.app]
    rw [upd_other (fun h => hno (.inl h)) (fun h => hno (.inr (.inl h)))]
    exact c3 o x ho
  · rintro (hA | hA)
    · exact c4 i hi' hA
    · exact (h3 i (memwri.2 (.inr (.inr hi')))).1 (memwri.2 (.inr (.inr hA)))
  · simp only [Ct.app]
    congr 1
    · funext t
      simp only [putE]
      by_cases e1 : c.d = some t <;> by_cases e2 : d.d = some t <;> simp [e1, e2]
      exact absurd e2 (h1 t e1).2
    · funext o
      by_cases e1 : o ∈ c.wri
      · have e2 : o ∉ d.wri := (h3 o e1).1
        rw [memwri] at e2
        rw [upd_other (fun h => e2 (.inl h)) (fun h => e2 (.inr (.inl h)))]
        by_cases e3 : o ∈ c.Hi.map (·.1) ∨ o ∈ c.Ho.map (·.1)
        · exact upd_own e3 (fun _ => trivial)
        · rw [upd_other (fun h => e3 (.inl h)) (fun h => e3 (.inr h)), upd_other (fun h => e3 (.inl h)) (fun h => e3 (.inr h)), upd_other (fun h => e2 (.inl h)) (fun h => e2 (.inr (.inl h)))]
      · rw [memwri] at e1
        rw [upd_other (H := S.H.upd (hp d.Hi) (hp d.Ho)) (Hi := c.Hi) (fun h => e1 (.inl h)) (fun h => e1 (.inr (.inl h)))]
        by_cases e3 : o ∈ d.Hi.map (·.1) ∨ o ∈ d.Ho.map (·.1)
        · exact upd_own e3 (fun _ => trivial)
        · rw [upd_other (fun h => e3 (.inl h)) (fun h => e3 (.inr h)), upd_other (fun h => e3 (.inl h)) (fun h => e3 (.inr h)), upd_other (fun h => e1 (.inl h)) (fun h => e1 (.inr (.inl h)))]
    · funext o
      simp only [or_assoc, eq_iff_iff]
      constructor
      · rintro (h | h | h)
        · exact .inl h
        · exact .inr (.inr h)
        · exact .inr (.inl h)
      · rintro (h | h | h)
        · exact .inl h
        · exact .inr (.inr h)
        · exact .inr (.inl h)

/-- contracts in a row, in the order of the text -/
inductive Chain (P : Program) (r : Option Nat) (N : Nat) (D : List Nat) (B : Base) (all : Array Oper) : List (Nat × Ct) → St → St → Prop
  | nil (S : St) : Chain P r N D B all [] S S
  | cons {i : Nat} {c : Ct} {l : List (Nat × Ct)} {S S' : St} (h : CtOk P r N D B all i c) (hp : c.pre S) (h' : Chain P r N D B all l (c.app S) S') : Chain P r N D B all ((i, c) :: l) S S'

section
variable {P : Program} {r : Option Nat} {N : Nat} {D : List Nat} {B : Base} {all : Array Oper}

theorem Chain.pull {i : Nat} {c : Ct} {post : List (Nat × Ct)} : ∀ {pre : List (Nat × Ct)} {S S' : St}, (∀ q ∈ pre, indep q.2 c = true) →
    Chain P r N D B all (pre ++ (i, c) :: post) S S' → CtOk P r N D B all i c ∧ c.pre S ∧ Chain P r N D B all (pre ++ post) (c.app S) S'
  | [], S, S', _, h => by
    cases h with
    | cons h hp h' => exact ⟨h, hp, h'⟩
  | q :: pre, S, S', hind, h => by
    obtain ⟨j, d⟩ := q
    cases h with
    | cons h hp h' =>
      obtain ⟨k1, k2, k3⟩ := Chain.pull (fun q hq => hind q (List.mem_cons_of_mem _ hq)) h'
      obtain ⟨s1, s2, s3⟩ := Ct.swap (hind (j, d) List.mem_cons_self) hp k2
      rw [s3] at k3
      exact ⟨k1, s1, .cons h s2 k3⟩

/-- the operations that an operation waits for -/
def depsOf (all : Array Oper) (i : Nat) : List Nat :=
  match all[i]? with
  | some o => (o.after.toList.filter (Region.binds .any ·)).map (·.on)
  | none => []

def ordf (all : Array Oper) : Nat → Nat → Nat → Bool
  | 0, _, _ => false
  | f + 1, j, i => (depsOf all i).contains j || (depsOf all i).any (fun d => decide (j < d) && ordf all f j d)

theorem ordf_spec (listed : Nat → Prop) (hc : ∀ k, listed k → ∀ d ∈ depsOf all k, listed d) : ∀ (f j i : Nat), ordf all f j i = true → (∀ d ∈ depsOf all i, listed d) → listed j := by
  intro f
  induction f with
  | zero => intro j i h; simp [ordf] at h
  | succ f ih =>
    intro j i h hd
    simp only [ordf, Bool.or_eq_true, List.contains_eq_mem, decide_eq_true_eq, List.any_eq_true, Bool.and_eq_true] at h
    rcases h with h | ⟨d, h1, _, h2⟩
    · exact hd j h
    · exact ih j d h2 (hc d (hd d h1))

/-- every two operations are ordered by edges, or touch nothing in common -/
def pairsOk (all : Array Oper) : List (Nat × Ct) → Bool
  | [] => true
  | (j, d) :: l => l.all (fun q => indep d q.2 || ordf all (q.1 + 1) j q.1) && pairsOk all l

def edgesOk (all : Array Oper) : Bool := (List.range all.size).all fun i => (depsOf all i).all (fun d => decide (d < i))

theorem pairsOk_pre {i : Nat} {c : Ct} {post : List (Nat × Ct)} : ∀ {pre : List (Nat × Ct)}, pairsOk all (pre ++ (i, c) :: post) = true →
    (∀ q ∈ pre, indep q.2 c = true ∨ ordf all (i + 1) q.1 i = true) ∧ pairsOk all (pre ++ post) = true
  | [], h => by
    simp only [List.nil_append, pairsOk, Bool.and_eq_true] at h
    exact ⟨by simp, h.2⟩
  | (j, d) :: pre, h => by
    simp only [List.cons_append, pairsOk, Bool.and_eq_true, List.all_eq_true, Bool.or_eq_true] at h
    obtain ⟨h1, h2⟩ := h
    obtain ⟨k1, k2⟩ := pairsOk_pre h2
    refine ⟨fun q hq => ?_, ?_⟩
    · rcases List.mem_cons.1 hq with rfl | hq
      · exact h1 (i, c) (by simp)
      · exact k1 q hq
    · simp only [List.cons_append, pairsOk, Bool.and_eq_true, List.all_eq_true, Bool.or_eq_true]
      refine ⟨fun q hq => h1 q ?_, k2⟩
      simp only [List.mem_append, List.mem_cons] at hq ⊢
      rcases hq with hq | hq
      · exact .inl hq
      · exact .inr (.inr hq)

theorem mem_ready {listed : Array Bool} {i : Nat} : i ∈ Region.ready .any all listed ↔
    i < all.size ∧ listed.getD i true = false ∧ ∀ d ∈ depsOf all i, listed.getD d false = true := by
  unfold Region.ready depsOf
  simp only [List.mem_filter, List.mem_range, Bool.and_eq_true, Bool.not_eq_true']
  constructor
  · rintro ⟨h1, h2, h3⟩
    refine ⟨h1, h2, ?_⟩
    rw [Array.getElem?_eq_getElem h1] at h3 ⊢
    simp only [Option.map_some, Option.getD_some, Array.all_eq_true'] at h3
    intro d hd
    simp only [List.mem_map, List.mem_filter, Array.mem_toList_iff] at hd
    obtain ⟨e, ⟨he, hb⟩, rfl⟩ := hd
    have := h3 e he
    simpa [hb] using this
  · rintro ⟨h1, h2, h3⟩
    refine ⟨h1, h2, ?_⟩
    rw [Array.getElem?_eq_getElem h1] at h3 ⊢
    simp only [Option.map_some, Option.getD_some, Array.all_eq_true']
    intro e he
    cases hb : Region.binds .any e with
    | false => simp
    | true =>
      have := h3 e.on (List.mem_map.2 ⟨e, List.mem_filter.2 ⟨by simpa using he, hb⟩, rfl⟩)
      simp [this]

theorem region_any_order {Q : Exit → Act → World → Prop} (hE : edgesOk all = true) {Sn : St} (hQ : ∀ cx a w, Rel B N D Sn cx a w → Q .normal a w) :
    ∀ (fuel : Nat) (rem : List (Nat × Ct)) (listed : Array Bool) (S : St) (cx : Cx) (a : Act) (w : World), rem.length ≤ fuel → listed.size = all.size →
      (rem.map (·.1)).Pairwise (· < ·) → (∀ i, i < all.size → (listed.getD i true = false ↔ i ∈ rem.map (·.1))) → (∀ i ∈ rem.map (·.1), i < all.size) →
      (∀ k, listed.getD k false = true → ∀ d ∈ depsOf all k, listed.getD d false = true) →
      pairsOk all rem = true → Chain P r N D B all rem S Sn → Rel B N D S cx a w → wpAnyIn (FW r) 0 P .any all Q fuel listed a w := by
  have hE' : ∀ i, i < all.size → ∀ d ∈ depsOf all i, d < i := by
    intro i hi d hd
    unfold edgesOk at hE
    simp only [List.all_eq_true, List.mem_range, decide_eq_true_eq] at hE
    exact hE i hi d hd
  have done : ∀ (rem : List (Nat × Ct)) (listed : Array Bool), listed.size = all.size → (rem.map (·.1)).Pairwise (· < ·) → (∀ i, i < all.size → (listed.getD i true = false ↔ i ∈ rem.map (·.1))) → (∀ i ∈ rem.map (·.1), i < all.size) →
      Region.ready .any all listed = [] → rem = [] := by
    intro rem listed hsz hs hl hb hr
    cases rem with
    | nil => rfl
    | cons q rest =>
      exfalso
      obtain ⟨i, c⟩ := q
      have hi : i < all.size := hb i (by simp)
      have : i ∈ Region.ready .any all listed := by
        rw [mem_ready]
        refine ⟨hi, (hl i hi).2 (by simp), fun d hd => ?_⟩
        have hlt := hE' i hi d hd
        have hnot : d ∉ ((i, c) :: rest).map (·.1) := by
          simp only [List.map_cons, List.pairwise_cons] at hs
          simp only [List.map_cons, List.mem_cons, not_or]
          exact ⟨by omega, fun hm => by have := hs.1 d hm; omega⟩
        have hd1 : listed.getD d true ≠ false := fun h => hnot ((hl d (by omega)).1 h)
        have hdl : d < listed.size := by omega
        simp only [Array.getD_eq_getD_getElem?, Array.getElem?_eq_getElem hdl, Option.getD_some] at hd1 ⊢
        simpa using hd1
      rw [hr] at this
      simp at this
  intro fuel
  induction fuel with
  | zero =>
    intro rem listed S cx a w hlen hsz hs hl hb hcl hp hch hrel
    have hn : rem = [] := List.eq_nil_of_length_eq_zero (by omega)
    subst hn
    cases hch
    refine ⟨?_, hQ _ _ _ hrel⟩
    apply List.eq_nil_iff_forall_not_mem.2
    intro i hi
    rw [mem_ready] at hi
    have := (hl i hi.1).1 hi.2.1
    simp at this
  | succ fuel ih =>
    intro rem listed S cx a w hlen hsz hs hl hb hcl hp hch hrel
    refine ⟨fun hr => ?_, fun i hi => ?_⟩
    · have hn := done rem listed hsz hs hl hb hr
      subst hn
      cases hch
      exact hQ _ _ _ hrel
    · rw [mem_ready] at hi
      obtain ⟨hi1, hi2, hi3⟩ := hi
      have hm : i ∈ rem.map (·.1) := (hl i hi1).1 hi2
      obtain ⟨⟨i', c⟩, hq, rfl⟩ := List.mem_map.1 hm
      obtain ⟨pre, post, rfl⟩ := List.append_of_mem hq
      obtain ⟨p1, p2⟩ := pairsOk_pre hp
      have notl : ∀ k, k ∈ (pre ++ (i', c) :: post).map (·.1) → listed.getD k false = false := by
        intro k hk
        have hk1 := hb k hk
        have := (hl k hk1).2 hk
        have hkl : k < listed.size := by omega
        simp only [Array.getD_eq_getD_getElem?, Array.getElem?_eq_getElem hkl, Option.getD_some] at this ⊢
        exact this
      have hind : ∀ q ∈ pre, indep q.2 c = true := by
        intro q hqp
        rcases p1 q hqp with h | h
        · exact h
        · exfalso
          have := ordf_spec (all := all) (fun k => listed.getD k false = true) hcl _ _ _ h hi3
          rw [notl q.1 (List.mem_map.2 ⟨q, by simp [hqp], rfl⟩)] at this
          cases this
      obtain ⟨k1, k2, k3⟩ := Chain.pull hind hch
      have hsub : ((pre ++ post).map (·.1)).Sublist ((pre ++ (i', c) :: post).map (·.1)) := by
        simp only [List.map_append, List.map_cons]
        exact List.Sublist.append_left (List.sublist_cons_self _ _) _
      have hnd : i' ∉ (pre ++ post).map (·.1) := by
        simp only [List.map_append, List.map_cons] at hs ⊢
        rw [List.pairwise_append] at hs
        obtain ⟨_, s2, s3⟩ := hs
        rw [List.pairwise_cons] at s2
        simp only [List.mem_append, not_or]
        exact ⟨fun h => by have := s3 i' h i' (by simp); omega, fun h => by have := s2.1 i' h; omega⟩
      have hset : ∀ k b, (listed.setIfInBounds i' true).getD k b = if k = i' then true else listed.getD k b := by
        intro k b
        simp only [Array.getD_eq_getD_getElem?, Array.getElem?_setIfInBounds]
        by_cases h : i' = k
        · subst h; simp [show i' < listed.size by omega]
        · simp [h, Ne.symm h]
      refine k1 S cx a w _ Q k2 hrel (fun cx' a' w' hrel' => ih (pre ++ post) _ (c.app S) cx' a' w' ?_ (by simpa using hsz) (hs.sublist hsub) ?_ (fun j hj => hb j (hsub.subset hj)) ?_ p2 k3 hrel')
      · simp only [List.length_append, List.length_cons] at hlen ⊢; omega
      · intro k hk
        rw [hset]
        by_cases hki : k = i'
        · subst hki
          rw [if_pos rfl]
          exact ⟨fun h => by simp at h, fun h => absurd h hnd⟩
        · rw [if_neg hki, hl k hk]
          simp only [List.map_append, List.map_cons, List.mem_append, List.mem_cons]
          constructor
          · rintro (h | h | h)
            · exact .inl h
            · exact absurd h hki
            · exact .inr h
          · rintro (h | h)
            · exact .inl h
            · exact .inr (.inr h)
      · intro k hk d hd
        rw [hset] at hk ⊢
        by_cases hdi : d = i'
        · simp [hdi]
        · rw [if_neg hdi]
          by_cases hki : k = i'
          · subst hki; exact hi3 d hd
          · rw [if_neg hki] at hk; exact hcl k hk d hd

theorem region_text_order {Q : Exit → Act → World → Prop} {Sn : St} (hQ : ∀ cx a w, Rel B N D Sn cx a w → Q .normal a w) :
    ∀ (rem : List (Nat × Ct)) (S : St) (cx : Cx) (a : Act) (w : World), Chain P r N D B all rem S Sn → Rel B N D S cx a w → wpOpsIn (FW r) 0 P all Q (rem.map (·.1)) a w := by
  intro rem
  induction rem with
  | nil => intro S cx a w h hr; cases h; simp only [List.map_nil, wpOpsIn]; exact hQ _ _ _ hr
  | cons q rest ih =>
    intro S cx a w h hr
    obtain ⟨i, c⟩ := q
    cases h with
    | cons h hp h' =>
      rw [List.map_cons, wpOpsIn_cons]
      exact h S cx a w _ Q hp hr (fun cx' a' w' hr' => ih _ _ _ _ h' hr')
end

end Go.Proofs.Ytmiamhegohlglaa
