/- Logical values, the memory that they stand for, and what a step of the program may turn: the ground of the program logic (no condition). -/
import Derived.WalkKit
import Derived.OrdersIn
set_option linter.unusedSimpArgs false
set_option linter.unusedVariables false
namespace Go.Proofs.Ytmiamhegohlglaa

/-- closed values: a plain value; a slice that is not written any more; a pointer to cells that are not written any more -/
inductive SV where
  | val (v : Value)
  | sl (sz : Nat) (xs : List (List SV))
  | at_ (cs : List SV)

/-- a slice without elements, whatever it points to -/
def emptySl (x : Value) : Prop := x = .slice none 0 0 ∨ ∃ a cap, x = .slice (some a) 0 cap ∧ cap ≤ maxLen

mutual
def VS (pr : Nat → Nat) (w : World) : SV → Value → Prop
  | .val v, x => x = v
  | .sl sz xs, x => (emptySl x ∧ xs = []) ∨
      ∃ b off cap, x = .slice (some ⟨b, off, none⟩) xs.length cap ∧ xs.length ≤ cap ∧ cap ≤ maxLen ∧ off + xs.length * sz ≤ pr b ∧ VSR pr w b off sz xs
  | .at_ cs, x => ∃ b off, x = .pointer (some ⟨b, off, none⟩) ∧ off + cs.length ≤ pr b ∧ VSC pr w b off cs
def VSC (pr : Nat → Nat) (w : World) (b : Nat) : Nat → List SV → Prop
  | _, [] => True
  | off, c :: cs => (∃ v, w.cell? ⟨b, off, none⟩ = some v ∧ v.oneCell' = true ∧ VS pr w c v) ∧ VSC pr w b (off + 1) cs
def VSR (pr : Nat → Nat) (w : World) (b : Nat) : Nat → Nat → List (List SV) → Prop
  | _, _, [] => True
  | off, sz, e :: es => e.length = sz ∧ VSC pr w b off e ∧ VSR pr w b (off + sz) sz es
end

/-- what a world keeps for closed values -/
def Ext (pr : Nat → Nat) (w : World) (pr' : Nat → Nat) (w' : World) : Prop :=
  ∀ b off, off < pr b → off < pr' b ∧ w'.cell? ⟨b, off, none⟩ = w.cell? ⟨b, off, none⟩

theorem Ext.refl (pr : Nat → Nat) (w : World) : Ext pr w pr w := fun _ _ h => ⟨h, rfl⟩
theorem Ext.trans {p1 p2 p3 : Nat → Nat} {w1 w2 w3 : World} (h : Ext p1 w1 p2 w2) (k : Ext p2 w2 p3 w3) : Ext p1 w1 p3 w3 :=
  fun b off ho => ⟨(k b off (h b off ho).1).1, ((k b off (h b off ho).1).2).trans (h b off ho).2⟩
theorem Ext.le {pr pr' : Nat → Nat} {w w' : World} (h : Ext pr w pr' w') (b : Nat) : pr b ≤ pr' b := by
  rcases Nat.eq_zero_or_pos (pr b) with h0 | h0
  · omega
  · have := (h b (pr b - 1) (by omega)).1; omega

mutual
theorem VS.mono {pr pr' : Nat → Nat} {w w' : World} (hx : Ext pr w pr' w') : ∀ (s : SV) (x : Value), VS pr w s x → VS pr' w' s x
  | .val v, x, h => by simpa [VS] using h
  | .sl sz xs, x, h => by
    simp only [VS] at h ⊢
    rcases h with h | ⟨b, off, cap, h1, h2, h3, h4, h5⟩
    · exact .inl h
    · exact .inr ⟨b, off, cap, h1, h2, h3, Nat.le_trans h4 (Ext.le hx b), VSR.mono hx b xs off sz h4 h5⟩
  | .at_ cs, x, h => by
    simp only [VS] at h ⊢
    obtain ⟨b, off, h1, h2, h3⟩ := h
    exact ⟨b, off, h1, Nat.le_trans h2 (Ext.le hx b), VSC.mono hx b cs off h2 h3⟩
theorem VSC.mono {pr pr' : Nat → Nat} {w w' : World} (hx : Ext pr w pr' w') (b : Nat) : ∀ (cs : List SV) (off : Nat), off + cs.length ≤ pr b → VSC pr w b off cs → VSC pr' w' b off cs
  | [], _, _, _ => by simp [VSC]
  | c :: cs, off, hl, h => by
    simp only [VSC] at h ⊢
    simp only [List.length_cons] at hl
    obtain ⟨⟨v, h1, ho, h2⟩, h3⟩ := h
    exact ⟨⟨v, ((hx b off (by omega)).2).trans h1, ho, VS.mono hx c v h2⟩, VSC.mono hx b cs (off + 1) (by omega) h3⟩
theorem VSR.mono {pr pr' : Nat → Nat} {w w' : World} (hx : Ext pr w pr' w') (b : Nat) : ∀ (xs : List (List SV)) (off sz : Nat), off + xs.length * sz ≤ pr b → VSR pr w b off sz xs → VSR pr' w' b off sz xs
  | [], _, _, _, _ => by simp [VSR]
  | e :: es, off, sz, hl, h => by
    simp only [VSR] at h ⊢
    simp only [List.length_cons, Nat.add_mul, Nat.one_mul] at hl
    obtain ⟨h1, h2, h3⟩ := h
    exact ⟨h1, VSC.mono hx b e off (by omega) h2, VSR.mono hx b es (off + sz) sz (by omega) h3⟩
end

/-- logical values: closed ones; aggregates; tuples; a pointer into an object of one's own; the value of such an object (a slice that may grow, a map); a function value -/
inductive LV where
  | sv (s : SV)
  | agg (cs : List LV)
  | tup (cs : List LV)
  | ptr (o off : Nat)
  | ref (o : Nat)
  | fn (f : Fn) (fst cap : List LV)
  | yld (o : Nat)

/-- objects of one's own -/
inductive LO where
  | box (T : TypeId) (cs : List LV)
  | row (T : TypeId) (sz : Nat) (xs : List (List LV))
  | rs (T : TypeId) (sz : Nat) (ys : List (List SV))
  /-- a box whose k-th cell is a slice of the box's own -/
  | bx (T : TypeId) (cs : List LV) (k : Nat) (Te : TypeId) (sz : Nat) (ys : List (List SV))
  | raw (x : Obj)
  | loop (fn : FuncId) (N : Nat) (E : List (Nat × Bool × LV)) (ps : Array Tmp) (assign body : Code) (st : LoopState) (pd : Option Code)

structure Cx where
  pr : Nat → Nat
  A : Nat → Prop
  loc : Nat → Value
  inn : Nat → Option Nat

/-- may it stand for an object: a slice or a map -/
def isRef : Value → Bool
  | .slice .. => true
  | .map _ => true
  | _ => false

def bk : Value → Option Nat
  | .pointer (some a) => some a.block
  | .slice (some a) _ _ => some a.block
  | .map r => r
  | _ => none

mutual
def V (cx : Cx) (w : World) : LV → Value → Prop
  | .sv s, x => VS cx.pr w s x
  | .agg cs, x => ∃ vs : List Value, x = .agg vs.toArray ∧ Vs cx w cs vs
  | .tup cs, x => ∃ vs : List Value, x = .tuple vs.toArray ∧ Vs cx w cs vs
  | .ptr o off, x => cx.A o ∧ ∃ b, bk (cx.loc o) = some b ∧ x = .pointer (some ⟨b, off, none⟩)
  | .ref o, x => cx.A o ∧ x = cx.loc o ∧ isRef x = true
  | .fn f p q, x => ∃ us vs : List Value, x = .func f us.toArray vs.toArray ∧ Vs cx w p us ∧ Vs cx w q vs
  | .yld o, x => cx.A o ∧ ∃ l, bk (cx.loc o) = some l ∧ x = .func (.yield l) #[] #[]
def Vs (cx : Cx) (w : World) : List LV → List Value → Prop
  | [], xs => xs = []
  | c :: cs, xs => ∃ x rest, xs = x :: rest ∧ V cx w c x ∧ Vs cx w cs rest
end

def CxLe (cx cx' : Cx) : Prop := ∀ o, cx.A o → cx'.A o ∧ cx'.loc o = cx.loc o
theorem CxLe.refl (cx : Cx) : CxLe cx cx := fun _ h => ⟨h, rfl⟩
theorem CxLe.trans {a b c : Cx} (h : CxLe a b) (k : CxLe b c) : CxLe a c :=
  fun o ho => ⟨(k o (h o ho).1).1, ((k o (h o ho).1).2).trans (h o ho).2⟩

mutual
theorem V.mono {cx cx' : Cx} {w w' : World} (hl : CxLe cx cx') (hx : Ext cx.pr w cx'.pr w') : ∀ (l : LV) (x : Value), V cx w l x → V cx' w' l x
  | .sv s, x, h => by simp only [V] at h ⊢; exact VS.mono hx s x h
  | .agg cs, x, h => by simp only [V] at h ⊢; obtain ⟨vs, h1, h2⟩ := h; exact ⟨vs, h1, Vs.mono hl hx cs vs h2⟩
  | .tup cs, x, h => by simp only [V] at h ⊢; obtain ⟨vs, h1, h2⟩ := h; exact ⟨vs, h1, Vs.mono hl hx cs vs h2⟩
  | .ptr o off, x, h => by
    simp only [V] at h ⊢
    obtain ⟨h1, b, h2, h3⟩ := h
    exact ⟨(hl o h1).1, b, by rw [(hl o h1).2]; exact h2, h3⟩
  | .ref o, x, h => by
    simp only [V] at h ⊢
    obtain ⟨h1, h2⟩ := h
    exact ⟨(hl o h1).1, by rw [(hl o h1).2]; exact h2⟩
  | .fn f p q, x, h => by
    simp only [V] at h ⊢
    obtain ⟨us, vs, h1, h2, h3⟩ := h
    exact ⟨us, vs, h1, Vs.mono hl hx p us h2, Vs.mono hl hx q vs h3⟩
  | .yld o, x, h => by
    simp only [V] at h ⊢
    obtain ⟨h1, b, h2, h3⟩ := h
    exact ⟨(hl o h1).1, b, by rw [(hl o h1).2]; exact h2, h3⟩
theorem Vs.mono {cx cx' : Cx} {w w' : World} (hl : CxLe cx cx') (hx : Ext cx.pr w cx'.pr w') : ∀ (l : List LV) (x : List Value), Vs cx w l x → Vs cx' w' l x
  | [], x, h => by simpa [Vs] using h
  | c :: cs, x, h => by
    simp only [Vs] at h ⊢
    obtain ⟨y, r, h1, h2, h3⟩ := h
    exact ⟨y, r, h1, V.mono hl hx c y h2, Vs.mono hl hx cs r h3⟩
end

theorem Vs.length {cx : Cx} {w : World} : ∀ {l : List LV} {x : List Value}, Vs cx w l x → x.length = l.length
  | [], x, h => by simp [Vs] at h; simp [h]
  | c :: cs, x, h => by
    simp only [Vs] at h
    obtain ⟨y, r, rfl, _, h3⟩ := h
    simp [Vs.length h3]
theorem Vs.get {cx : Cx} {w : World} : ∀ {l : List LV} {x : List Value}, Vs cx w l x → ∀ {i : Nat} {c : LV}, l[i]? = some c → ∃ v, x[i]? = some v ∧ V cx w c v
  | [], x, h, i, c, hc => by simp at hc
  | c :: cs, x, h, i, d, hd => by
    simp only [Vs] at h
    obtain ⟨y, r, rfl, h2, h3⟩ := h
    cases i with
    | zero => simp at hd; subst hd; exact ⟨y, by simp, h2⟩
    | succ i => simp at hd; obtain ⟨v, hv, hh⟩ := Vs.get h3 hd; exact ⟨v, by simpa using hv, hh⟩
theorem Vs.append {cx : Cx} {w : World} : ∀ {l l' : List LV} {x x' : List Value}, Vs cx w l x → Vs cx w l' x' → Vs cx w (l ++ l') (x ++ x')
  | [], l', x, x', h, h' => by simp [Vs] at h; subst h; simpa using h'
  | c :: cs, l', x, x', h, h' => by
    simp only [Vs] at h
    obtain ⟨y, r, rfl, h2, h3⟩ := h
    simp only [List.cons_append, Vs]
    exact ⟨y, r ++ x', rfl, h2, Vs.append h3 h'⟩
theorem Vs.split {cx : Cx} {w : World} : ∀ {l l' : List LV} {x : List Value}, Vs cx w (l ++ l') x → ∃ a b, x = a ++ b ∧ Vs cx w l a ∧ Vs cx w l' b
  | [], l', x, h => ⟨[], x, by simp, by simp [Vs], h⟩
  | c :: cs, l', x, h => by
    simp only [List.cons_append, Vs] at h
    obtain ⟨y, r, rfl, h2, h3⟩ := h
    obtain ⟨a, b, rfl, ha, hb⟩ := Vs.split h3
    exact ⟨y :: a, b, rfl, by simp only [Vs]; exact ⟨y, a, rfl, h2, ha⟩, hb⟩

/-- what a slot holds: where its sign is true, a value of that kind; where it is false, nothing -/
def EntOk (cx : Cx) (w : World) (e : Bool × LV) (x : Value) : Prop := (e.1 = true → V cx w e.2 x) ∧ (e.1 = false → x = undef)

theorem EntOk.mono {cx cx' : Cx} {w w' : World} (hl : CxLe cx cx') (hx : Ext cx.pr w cx'.pr w') {e : Bool × LV} {x : Value} (h : EntOk cx w e x) : EntOk cx' w' e x :=
  ⟨fun he => V.mono hl hx _ _ (h.1 he), h.2⟩

def LO.isBx : LO → Bool
  | .bx .. => true
  | _ => false
/-- the blocks of an object -/
def Cx.has (cx : Cx) (o : Nat) (x : LO) (b : Nat) : Prop := bk (cx.loc o) = some b ∨ (x.isBx = true ∧ cx.inn o = some b)

theorem Cx.has_of {cx : Cx} {o : Nat} {x : LO} {b : Nat} (h : x.isBx = false) : cx.has o x b ↔ bk (cx.loc o) = some b := by
  unfold Cx.has; rw [h]; simp
/-- an object of one's own, as it lies -/
def ObjOk (cx : Cx) (w : World) (o : Nat) : LO → Prop
  | .box T cs => ∃ b vs, cx.loc o = .pointer (some ⟨b, 0, none⟩) ∧ w.heap[b]? = some (.cells (List.toArray vs) T (0, 0)) ∧ Vs cx w cs vs
  | .row T sz xs => (∀ e ∈ xs, e.length = sz) ∧ ∃ vs, w.ownsRow 0 T sz (cx.loc o) xs.length vs ∧ Vs cx w xs.flatten vs ∧ ∀ u ∈ vs, u.oneCell' = true
  | .rs T sz ys => (∀ e ∈ ys, e.length = sz) ∧ ∃ vs, w.ownsRow 0 T sz (cx.loc o) ys.length vs ∧ Vs cx w (ys.flatten.map LV.sv) vs ∧ ∀ u ∈ vs, u.oneCell' = true
  | .bx T cs k Te sz ys => ∃ b vs v, cx.loc o = .pointer (some ⟨b, 0, none⟩) ∧ w.heap[b]? = some (.cells (List.toArray vs) T (0, 0)) ∧ Vs cx w (cs.set k (.sv (.val v))) vs ∧ k < cs.length ∧ cx.inn o = bk v ∧ bk v ≠ some b ∧
      isRef v = true ∧ (∀ e ∈ ys, e.length = sz) ∧ ∃ us, w.ownsRow 0 Te sz v ys.length us ∧ Vs cx w (ys.flatten.map LV.sv) us ∧ ∀ u ∈ us, u.oneCell' = true
  | .raw x => ∃ b, bk (cx.loc o) = some b ∧ w.heap[b]? = some x
  | .loop fn N E ps assign body st pd => ∃ l T df, bk (cx.loc o) = some l ∧ w.heap[l]? = some (.loop { state := st, pending := pd, fn := fn, tmps := T, params := ps, assign := assign, body := body, defers := df }) ∧ T.size = N ∧
      ∀ t e, E.lookup t = some e → EntOk cx w e (T.getD t undef)

/-- what is not written stays -/
theorem ObjOk.mono {cx cx' : Cx} {w w' : World} (hl : CxLe cx cx') (hx : Ext cx.pr w cx'.pr w') {o : Nat} {x : LO} (ho : cx.A o)
    (hh : ∀ b, cx.has o x b → b < w.heap.size → w'.heap[b]? = w.heap[b]?) (hi : cx'.inn o = cx.inn o) (h : ObjOk cx w o x) : ObjOk cx' w' o x := by
  have hlo := (hl o ho).2
  have hh' : ∀ b, bk (cx.loc o) = some b → b < w.heap.size → w'.heap[b]? = w.heap[b]? := fun b hb => hh b (.inl hb)
  have lt : ∀ {b : Nat} {y : Obj}, w.heap[b]? = some y → b < w.heap.size := fun h => (Array.getElem?_eq_some_iff.1 h).1
  cases x with
  | box T cs =>
    obtain ⟨b, vs, h1, h2, h3⟩ := h
    refine ⟨b, vs, by rw [hlo]; exact h1, ?_, Vs.mono hl hx cs vs h3⟩
    rw [hh' b (by rw [h1]; rfl) (lt h2)]; exact h2
  | row T sz xs =>
    obtain ⟨hs, vs, h1, h2, h3⟩ := h
    refine ⟨hs, vs, ?_, Vs.mono hl hx _ vs h2, h3⟩
    rw [hlo]
    refine ⟨h1.1, ?_⟩
    rcases h1.2 with hn | ⟨g, cap, cur, hv, hb, hg, rest⟩
    · exact .inl hn
    · refine .inr ⟨g, cap, cur, hv, hb, ?_, rest⟩
      rw [hh' g (by rw [hv]; rfl) (lt hg)]; exact hg
  | rs T sz ys =>
    obtain ⟨hs, vs, h1, h2, h3⟩ := h
    refine ⟨hs, vs, ?_, Vs.mono hl hx _ vs h2, h3⟩
    rw [hlo]
    refine ⟨h1.1, ?_⟩
    rcases h1.2 with hn | ⟨g, cap, cur, hv, hb, hg, rest⟩
    · exact .inl hn
    · refine .inr ⟨g, cap, cur, hv, hb, ?_, rest⟩
      rw [hh' g (by rw [hv]; rfl) (lt hg)]; exact hg
  | bx T cs k Te sz ys =>
    obtain ⟨b, vs, v, h1, h2, h3, h4, h5, h5', h5'', h6, us, h7, h8, h9⟩ := h
    refine ⟨b, vs, v, by rw [hlo]; exact h1, ?_, Vs.mono hl hx _ vs h3, h4, by rw [hi]; exact h5, h5', h5'', h6, us, ?_, Vs.mono hl hx _ us h8, h9⟩
    · rw [hh' b (by rw [h1]; rfl) (lt h2)]; exact h2
    · refine ⟨h7.1, ?_⟩
      rcases h7.2 with hn | ⟨g, cap, cur, hv, hb, hg, rest⟩
      · exact .inl hn
      · refine .inr ⟨g, cap, cur, hv, hb, ?_, rest⟩
        rw [hh g (.inr ⟨rfl, by rw [h5, hv]; rfl⟩) (lt hg)]; exact hg
  | raw x =>
    obtain ⟨b, h1, h2⟩ := h
    exact ⟨b, by rw [hlo]; exact h1, by rw [hh' b h1 (lt h2)]; exact h2⟩
  | loop fn N E ps assign body st pd =>
    obtain ⟨l, T, df, h1, h2, h3, h4⟩ := h
    exact ⟨l, T, df, by rw [hlo]; exact h1, by rw [hh' l h1 (lt h2)]; exact h2, h3, fun t e he => (h4 t e he).mono hl hx⟩

/-- from (pr0, w0) to (pr, w): only blocks in md, and new ones, have turned -/
structure Grow (md : Nat → Prop) (pr0 : Nat → Nat) (w0 : World) (pr : Nat → Nat) (w : World) : Prop where
  os : w.os = w0.os
  tape : w.tape = w0.tape
  output : w.output = w0.output
  size : w0.heap.size ≤ w.heap.size
  same : ∀ b, b < w0.heap.size → ¬ md b → w.heap[b]? = w0.heap[b]?
  prs : ∀ b, b < w0.heap.size → ¬ md b → pr b = pr0 b
  ext : Ext pr0 w0 pr w

theorem Grow.refl (md : Nat → Prop) (pr : Nat → Nat) (w : World) : Grow md pr w pr w :=
  ⟨rfl, rfl, rfl, Nat.le_refl _, fun _ _ _ => rfl, fun _ _ _ => rfl, Ext.refl _ _⟩
theorem Grow.trans {md md' : Nat → Prop} {p0 p1 p2 : Nat → Nat} {w0 w1 w2 : World} (h : Grow md p0 w0 p1 w1) (k : Grow md' p1 w1 p2 w2)
    (hm : ∀ b, b < w0.heap.size → md' b → md b) : Grow md p0 w0 p2 w2 :=
  ⟨k.os.trans h.os, k.tape.trans h.tape, k.output.trans h.output, Nat.le_trans h.size k.size,
   fun b hb hn => (k.same b (Nat.lt_of_lt_of_le hb h.size) (fun hm' => hn (hm b hb hm'))).trans (h.same b hb hn),
   fun b hb hn => (k.prs b (Nat.lt_of_lt_of_le hb h.size) (fun hm' => hn (hm b hb hm'))).trans (h.prs b hb hn),
   h.ext.trans k.ext⟩

abbrev Hp := Nat → Option LO

/-- the objects of H lie as H says; none lies in a block that closed values speak of -/
structure HOk (md : Nat → Prop) (n0 : Nat) (cx : Cx) (H : Hp) (w : World) : Prop where
  ok : ∀ o x, H o = some x → cx.A o ∧ ObjOk cx w o x
  own : ∀ o x b, H o = some x → cx.has o x b → cx.pr b = 0 ∧ b < w.heap.size ∧ (n0 ≤ b ∨ md b)
  inj : ∀ o o' x x' b, o ≠ o' → H o = some x → H o' = some x' → cx.has o x b → ¬ cx.has o' x' b
  lim : ∀ b, 0 < cx.pr b → b < w.heap.size

/-- the blocks of some objects -/
def blks (cx : Cx) (H : Hp) (b : Nat) : Prop := ∃ o x, H o = some x ∧ cx.has o x b

/-- a step: it takes the objects of Hi and leaves those of Ho; 'new' are their new names -/
structure Tr (cx : Cx) (w : World) (Hi : Hp) (cx' : Cx) (w' : World) (Ho : Hp) (new : Nat → Prop) : Prop where
  le : CxLe cx cx'
  A : ∀ o, cx'.A o ↔ cx.A o ∨ new o
  grow : Grow (blks cx Hi) cx.pr w cx'.pr w'
  heap : HOk (blks cx Hi) w.heap.size cx' Ho w'
  inn : ∀ o, cx.A o → Hi o = none → cx'.inn o = cx.inn o

def Hp.upd (H Hi Ho : Hp) : Hp := fun o => match Ho o with
  | some x => some x
  | none => match Hi o with
    | some _ => none
    | none => H o

theorem HOk.step {md : Nat → Prop} {n0 : Nat} {cx cx' : Cx} {H Hi Ho : Hp} {w w' : World} {new : Nat → Prop} (h : HOk md n0 cx H w)
    (hn0 : n0 ≤ w.heap.size) (hi : ∀ o x, Hi o = some x → H o = some x) (t : Tr cx w Hi cx' w' Ho new) (hno : ∀ o, new o → ¬ cx.A o)
    (hdom : ∀ o x, Ho o = some x → (Hi o).isSome ∨ new o) :
    HOk md n0 cx' (H.upd Hi Ho) w' := by
  -- an object that is not touched
  have other : ∀ o x, Ho o = none → Hi o = none → H o = some x → cx'.A o ∧ (∀ b, cx'.has o x b ↔ cx.has o x b) ∧ ObjOk cx' w' o x ∧
      (∀ b, cx.has o x b → b < w.heap.size ∧ ¬ blks cx Hi b) := by
    intro o x _ h2 h3
    obtain ⟨hA, hO⟩ := h.ok o x h3
    have hnb : ∀ b, cx.has o x b → b < w.heap.size ∧ ¬ blks cx Hi b := by
      intro b hb
      refine ⟨(h.own o x b h3 hb).2.1, ?_⟩
      rintro ⟨o', x', h', hb'⟩
      have hne : o ≠ o' := by rintro rfl; rw [h2] at h'; cases h'
      exact h.inj o o' x x' b hne h3 (hi _ _ h') hb hb'
    have hinn := t.inn o hA h2
    refine ⟨(t.le o hA).1, fun b => by unfold Cx.has; rw [(t.le o hA).2, hinn], ?_, hnb⟩
    exact hO.mono t.le t.grow.ext hA (fun b hb hlt => t.grow.same b hlt (hnb b hb).2) hinn
  have split : ∀ o x, (H.upd Hi Ho) o = some x → Ho o = some x ∨ (Ho o = none ∧ Hi o = none ∧ H o = some x) := by
    intro o x hx
    unfold Hp.upd at hx
    split at hx
    · left; rename_i y hy; cases hx; exact hy
    · rename_i hy
      split at hx
      · cases hx
      · rename_i hz; exact .inr ⟨hy, hz, hx⟩
  constructor
  · intro o x hx
    rcases split o x hx with h1 | ⟨h1, h2, h3⟩
    · exact t.heap.ok o x h1
    · obtain ⟨a, _, c, _⟩ := other o x h1 h2 h3; exact ⟨a, c⟩
  · intro o x b hx hb
    rcases split o x hx with h1 | ⟨h1, h2, h3⟩
    · obtain ⟨a1, a2, a3⟩ := t.heap.own o x b h1 hb
      refine ⟨a1, a2, ?_⟩
      rcases a3 with a3 | ⟨o', x', h', hb'⟩
      · left; omega
      · exact (h.own o' x' b (hi _ _ h') hb').2.2
    · obtain ⟨_, hl, _, hk⟩ := other o x h1 h2 h3
      rw [hl] at hb
      obtain ⟨hlt, hnm⟩ := hk b hb
      obtain ⟨a1, _, a3⟩ := h.own o x b h3 hb
      exact ⟨(t.grow.prs b hlt hnm).trans a1, Nat.lt_of_lt_of_le hlt t.grow.size, a3⟩
  · intro o o' x x' b hne hx hx' hb
    rcases split o x hx with h1 | ⟨h1, h2, h3⟩ <;> rcases split o' x' hx' with k1 | ⟨k1, k2, k3⟩
    · exact t.heap.inj o o' x x' b hne h1 k1 hb
    · intro hb'
      obtain ⟨_, hl, _, hk⟩ := other o' x' k1 k2 k3
      rw [hl] at hb'
      obtain ⟨hlt, hnm⟩ := hk b hb'
      rcases (t.heap.own o x b h1 hb).2.2 with hh | hh
      · omega
      · exact hnm hh
    · intro hb'
      obtain ⟨_, hl, _, hk⟩ := other o x h1 h2 h3
      rw [hl] at hb
      obtain ⟨hlt, hnm⟩ := hk b hb
      rcases (t.heap.own o' x' b k1 hb').2.2 with hh | hh
      · omega
      · exact hnm hh
    · intro hb'
      obtain ⟨_, hl, _, _⟩ := other o x h1 h2 h3
      obtain ⟨_, hl', _, _⟩ := other o' x' k1 k2 k3
      rw [hl] at hb; rw [hl'] at hb'
      exact h.inj o o' x x' b hne h3 k3 hb hb'
  · exact t.heap.lim

end Go.Proofs.Ytmiamhegohlglaa
