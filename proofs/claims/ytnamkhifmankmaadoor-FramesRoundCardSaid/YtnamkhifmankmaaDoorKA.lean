/- The ground of the walks: a program logic over told states (no condition). -/
import Derived.Test.YtnamkhifmankmaaDoorM
import Derived.WalkKit
import Derived.OrdersIn
import Derived.TacticsIn
import Derived.RangeFuncLeaves
import Derived.RangeFuncRecord
import Derived.RangeFuncIn
import Derived.Deep.AppendSrc
set_option linter.unusedSimpArgs false
set_option linter.unusedVariables false
/- Logical values, the memory that they stand for, and what a step of the program may turn: the ground of the program logic (no condition). -/
namespace Go.Proofs.YtnamkhifmankmaaDoor

/-- closed values: a plain value; a slice that is not written any more; a pointer to cells that are not written any more -/
inductive SV where
  | val (v : Value)
  | sl (sz : Nat) (xs : List (List SV))
  | at_ (cs : List SV)

/-- a slice without elements, whatever it points to -/
def emptySl (x : Value) : Prop := x = .slice none 0 0 ∨ ∃ a cap, x = .slice (some a) 0 cap ∧ cap ≤ maxLen

mutual
def VS (pr : Nat → Nat) (w : World) : SV → Value → Prop
  | .val v, x => x = v
  | .sl sz xs, x => (emptySl x ∧ xs = []) ∨
      ∃ b off cap, x = .slice (some ⟨b, off, none⟩) xs.length cap ∧ xs.length ≤ cap ∧ cap ≤ maxLen ∧ off + xs.length * sz ≤ pr b ∧ VSR pr w b off sz xs
  | .at_ cs, x => ∃ b off, x = .pointer (some ⟨b, off, none⟩) ∧ off + cs.length ≤ pr b ∧ VSC pr w b off cs
def VSC (pr : Nat → Nat) (w : World) (b : Nat) : Nat → List SV → Prop
  | _, [] => True
  | off, c :: cs => (∃ v, w.cell? ⟨b, off, none⟩ = some v ∧ v.oneCell' = true ∧ VS pr w c v) ∧ VSC pr w b (off + 1) cs
def VSR (pr : Nat → Nat) (w : World) (b : Nat) : Nat → Nat → List (List SV) → Prop
  | _, _, [] => True
  | off, sz, e :: es => e.length = sz ∧ VSC pr w b off e ∧ VSR pr w b (off + sz) sz es
end

/-- what a world keeps for closed values -/
def Ext (pr : Nat → Nat) (w : World) (pr' : Nat → Nat) (w' : World) : Prop :=
  ∀ b off, off < pr b → off < pr' b ∧ w'.cell? ⟨b, off, none⟩ = w.cell? ⟨b, off, none⟩

theorem Ext.refl (pr : Nat → Nat) (w : World) : Ext pr w pr w := fun _ _ h => ⟨h, rfl⟩
theorem Ext.trans {p1 p2 p3 : Nat → Nat} {w1 w2 w3 : World} (h : Ext p1 w1 p2 w2) (k : Ext p2 w2 p3 w3) : Ext p1 w1 p3 w3 :=
  fun b off ho => ⟨(k b off (h b off ho).1).1, ((k b off (h b off ho).1).2).trans (h b off ho).2⟩
theorem Ext.le {pr pr' : Nat → Nat} {w w' : World} (h : Ext pr w pr' w') (b : Nat) : pr b ≤ pr' b := by
  rcases Nat.eq_zero_or_pos (pr b) with h0 | h0
  · omega
  · have := (h b (pr b - 1) (by omega)).1; omega

mutual
theorem VS.mono {pr pr' : Nat → Nat} {w w' : World} (hx : Ext pr w pr' w') : ∀ (s : SV) (x : Value), VS pr w s x → VS pr' w' s x
  | .val v, x, h => by simpa [VS] using h
  | .sl sz xs, x, h => by
    simp only [VS] at h ⊢
    rcases h with h | ⟨b, off, cap, h1, h2, h3, h4, h5⟩
    · exact .inl h
    · exact .inr ⟨b, off, cap, h1, h2, h3, Nat.le_trans h4 (Ext.le hx b), VSR.mono hx b xs off sz h4 h5⟩
  | .at_ cs, x, h => by
    simp only [VS] at h ⊢
    obtain ⟨b, off, h1, h2, h3⟩ := h
    exact ⟨b, off, h1, Nat.le_trans h2 (Ext.le hx b), VSC.mono hx b cs off h2 h3⟩
theorem VSC.mono {pr pr' : Nat → Nat} {w w' : World} (hx : Ext pr w pr' w') (b : Nat) : ∀ (cs : List SV) (off : Nat), off + cs.length ≤ pr b → VSC pr w b off cs → VSC pr' w' b off cs
  | [], _, _, _ => by simp [VSC]
  | c :: cs, off, hl, h => by
    simp only [VSC] at h ⊢
    simp only [List.length_cons] at hl
    obtain ⟨⟨v, h1, ho, h2⟩, h3⟩ := h
    exact ⟨⟨v, ((hx b off (by omega)).2).trans h1, ho, VS.mono hx c v h2⟩, VSC.mono hx b cs (off + 1) (by omega) h3⟩
theorem VSR.mono {pr pr' : Nat → Nat} {w w' : World} (hx : Ext pr w pr' w') (b : Nat) : ∀ (xs : List (List SV)) (off sz : Nat), off + xs.length * sz ≤ pr b → VSR pr w b off sz xs → VSR pr' w' b off sz xs
  | [], _, _, _, _ => by simp [VSR]
  | e :: es, off, sz, hl, h => by
    simp only [VSR] at h ⊢
    simp only [List.length_cons, Nat.add_mul, Nat.one_mul] at hl
    obtain ⟨h1, h2, h3⟩ := h
    exact ⟨h1, VSC.mono hx b e off (by omega) h2, VSR.mono hx b es (off + sz) sz (by omega) h3⟩
end

/-- logical values: closed ones; aggregates; tuples; a pointer into an object of one's own; the value of such an object (a slice that may grow, a map); a function value -/
inductive LV where
  | sv (s : SV)
  | agg (cs : List LV)
  | tup (cs : List LV)
  | ptr (o off : Nat)
  | ref (o : Nat)
  | fn (f : Fn) (fst cap : List LV)
  | yld (o : Nat)
  /-- a slice of an object of one's own -/
  | sub (o off len cap : Nat)
  /-- a value of which no more is told than p, whatever the world is -/
  | pv (p : Value → Prop)

/-- objects of one's own -/
inductive LO where
  | box (T : TypeId) (cs : List LV)
  | row (T : TypeId) (sz : Nat) (xs : List (List LV))
  | rs (T : TypeId) (sz : Nat) (ys : List (List SV))
  /-- a box whose k-th cell is a slice of the box's own -/
  | bx (T : TypeId) (cs : List LV) (k : Nat) (Te : TypeId) (sz : Nat) (ys : List (List SV))
  | raw (x : Obj)
  | loop (fn : FuncId) (N : Nat) (E : List (Nat × Bool × LV)) (ps : Array Tmp) (assign body : Code) (st : LoopState) (pd : Option Code)

structure Cx where
  pr : Nat → Nat
  A : Nat → Prop
  loc : Nat → Value
  inn : Nat → Option Nat

/-- may it stand for an object: a slice or a map -/
def isRef : Value → Bool
  | .slice .. => true
  | .map _ => true
  | _ => false

def bk : Value → Option Nat
  | .pointer (some a) => some a.block
  | .slice (some a) _ _ => some a.block
  | .map r => r
  | _ => none

mutual
def V (cx : Cx) (w : World) : LV → Value → Prop
  | .sv s, x => VS cx.pr w s x
  | .agg cs, x => ∃ vs : List Value, x = .agg vs.toArray ∧ Vs cx w cs vs
  | .tup cs, x => ∃ vs : List Value, x = .tuple vs.toArray ∧ Vs cx w cs vs
  | .ptr o off, x => cx.A o ∧ ∃ b, bk (cx.loc o) = some b ∧ x = .pointer (some ⟨b, off, none⟩)
  | .ref o, x => cx.A o ∧ x = cx.loc o ∧ isRef x = true
  | .fn f p q, x => ∃ us vs : List Value, x = .func f us.toArray vs.toArray ∧ Vs cx w p us ∧ Vs cx w q vs
  | .yld o, x => cx.A o ∧ ∃ l, bk (cx.loc o) = some l ∧ x = .func (.yield l) #[] #[]
  | .sub o off len cap, x => cx.A o ∧ ∃ b, bk (cx.loc o) = some b ∧ x = .slice (some ⟨b, off, none⟩) len cap
  | .pv p, x => p x ∧ x.oneCell' = true
def Vs (cx : Cx) (w : World) : List LV → List Value → Prop
  | [], xs => xs = []
  | c :: cs, xs => ∃ x rest, xs = x :: rest ∧ V cx w c x ∧ Vs cx w cs rest
end

def CxLe (cx cx' : Cx) : Prop := ∀ o, cx.A o → cx'.A o ∧ cx'.loc o = cx.loc o
theorem CxLe.refl (cx : Cx) : CxLe cx cx := fun _ h => ⟨h, rfl⟩
theorem CxLe.trans {a b c : Cx} (h : CxLe a b) (k : CxLe b c) : CxLe a c :=
  fun o ho => ⟨(k o (h o ho).1).1, ((k o (h o ho).1).2).trans (h o ho).2⟩

mutual
theorem V.mono {cx cx' : Cx} {w w' : World} (hl : CxLe cx cx') (hx : Ext cx.pr w cx'.pr w') : ∀ (l : LV) (x : Value), V cx w l x → V cx' w' l x
  | .sv s, x, h => by simp only [V] at h ⊢; exact VS.mono hx s x h
  | .agg cs, x, h => by simp only [V] at h ⊢; obtain ⟨vs, h1, h2⟩ := h; exact ⟨vs, h1, Vs.mono hl hx cs vs h2⟩
  | .tup cs, x, h => by simp only [V] at h ⊢; obtain ⟨vs, h1, h2⟩ := h; exact ⟨vs, h1, Vs.mono hl hx cs vs h2⟩
  | .ptr o off, x, h => by
    simp only [V] at h ⊢
    obtain ⟨h1, b, h2, h3⟩ := h
    exact ⟨(hl o h1).1, b, by rw [(hl o h1).2]; exact h2, h3⟩
  | .ref o, x, h => by
    simp only [V] at h ⊢
    obtain ⟨h1, h2⟩ := h
    exact ⟨(hl o h1).1, by rw [(hl o h1).2]; exact h2⟩
  | .fn f p q, x, h => by
    simp only [V] at h ⊢
    obtain ⟨us, vs, h1, h2, h3⟩ := h
    exact ⟨us, vs, h1, Vs.mono hl hx p us h2, Vs.mono hl hx q vs h3⟩
  | .yld o, x, h => by
    simp only [V] at h ⊢
    obtain ⟨h1, b, h2, h3⟩ := h
    exact ⟨(hl o h1).1, b, by rw [(hl o h1).2]; exact h2, h3⟩
  | .sub o off len cap, x, h => by
    simp only [V] at h ⊢
    obtain ⟨h1, b, h2, h3⟩ := h
    exact ⟨(hl o h1).1, b, by rw [(hl o h1).2]; exact h2, h3⟩
  | .pv p, x, h => by simpa only [V] using h
theorem Vs.mono {cx cx' : Cx} {w w' : World} (hl : CxLe cx cx') (hx : Ext cx.pr w cx'.pr w') : ∀ (l : List LV) (x : List Value), Vs cx w l x → Vs cx' w' l x
  | [], x, h => by simpa [Vs] using h
  | c :: cs, x, h => by
    simp only [Vs] at h ⊢
    obtain ⟨y, r, h1, h2, h3⟩ := h
    exact ⟨y, r, h1, V.mono hl hx c y h2, Vs.mono hl hx cs r h3⟩
end

theorem Vs.length {cx : Cx} {w : World} : ∀ {l : List LV} {x : List Value}, Vs cx w l x → x.length = l.length
  | [], x, h => by simp [Vs] at h; simp [h]
  | c :: cs, x, h => by
    simp only [Vs] at h
    obtain ⟨y, r, rfl, _, h3⟩ := h
    simp [Vs.length h3]
theorem Vs.get {cx : Cx} {w : World} : ∀ {l : List LV} {x : List Value}, Vs cx w l x → ∀ {i : Nat} {c : LV}, l[i]? = some c → ∃ v, x[i]? = some v ∧ V cx w c v
  | [], x, h, i, c, hc => by simp at hc
  | c :: cs, x, h, i, d, hd => by
    simp only [Vs] at h
    obtain ⟨y, r, rfl, h2, h3⟩ := h
    cases i with
    | zero => simp at hd; subst hd; exact ⟨y, by simp, h2⟩
    | succ i => simp at hd; obtain ⟨v, hv, hh⟩ := Vs.get h3 hd; exact ⟨v, by simpa using hv, hh⟩
theorem Vs.append {cx : Cx} {w : World} : ∀ {l l' : List LV} {x x' : List Value}, Vs cx w l x → Vs cx w l' x' → Vs cx w (l ++ l') (x ++ x')
  | [], l', x, x', h, h' => by simp [Vs] at h; subst h; simpa using h'
  | c :: cs, l', x, x', h, h' => by
    simp only [Vs] at h
    obtain ⟨y, r, rfl, h2, h3⟩ := h
    simp only [List.cons_append, Vs]
    exact ⟨y, r ++ x', rfl, h2, Vs.append h3 h'⟩
theorem Vs.split {cx : Cx} {w : World} : ∀ {l l' : List LV} {x : List Value}, Vs cx w (l ++ l') x → ∃ a b, x = a ++ b ∧ Vs cx w l a ∧ Vs cx w l' b
  | [], l', x, h => ⟨[], x, by simp, by simp [Vs], h⟩
  | c :: cs, l', x, h => by
    simp only [List.cons_append, Vs] at h
    obtain ⟨y, r, rfl, h2, h3⟩ := h
    obtain ⟨a, b, rfl, ha, hb⟩ := Vs.split h3
    exact ⟨y :: a, b, rfl, by simp only [Vs]; exact ⟨y, a, rfl, h2, ha⟩, hb⟩

/-- what a slot holds: where its sign is true, a value of that kind; where it is false, nothing -/
def EntOk (cx : Cx) (w : World) (e : Bool × LV) (x : Value) : Prop := (e.1 = true → V cx w e.2 x) ∧ (e.1 = false → x = undef)

theorem EntOk.mono {cx cx' : Cx} {w w' : World} (hl : CxLe cx cx') (hx : Ext cx.pr w cx'.pr w') {e : Bool × LV} {x : Value} (h : EntOk cx w e x) : EntOk cx' w' e x :=
  ⟨fun he => V.mono hl hx _ _ (h.1 he), h.2⟩

def LO.isBx : LO → Bool
  | .bx .. => true
  | _ => false
/-- the blocks of an object -/
def Cx.has (cx : Cx) (o : Nat) (x : LO) (b : Nat) : Prop := bk (cx.loc o) = some b ∨ (x.isBx = true ∧ cx.inn o = some b)

theorem Cx.has_of {cx : Cx} {o : Nat} {x : LO} {b : Nat} (h : x.isBx = false) : cx.has o x b ↔ bk (cx.loc o) = some b := by
  unfold Cx.has; rw [h]; simp
/-- an object of one's own, as it lies -/
def ObjOk (cx : Cx) (w : World) (o : Nat) : LO → Prop
  | .box T cs => ∃ b vs, cx.loc o = .pointer (some ⟨b, 0, none⟩) ∧ w.heap[b]? = some (.cells (List.toArray vs) T (0, 0)) ∧ Vs cx w cs vs
  | .row T sz xs => (∀ e ∈ xs, e.length = sz) ∧ ∃ vs, w.ownsRow 0 T sz (cx.loc o) xs.length vs ∧ Vs cx w xs.flatten vs ∧ ∀ u ∈ vs, u.oneCell' = true
  | .rs T sz ys => (∀ e ∈ ys, e.length = sz) ∧ ∃ vs, w.ownsRow 0 T sz (cx.loc o) ys.length vs ∧ Vs cx w (ys.flatten.map LV.sv) vs ∧ ∀ u ∈ vs, u.oneCell' = true
  | .bx T cs k Te sz ys => ∃ b vs v, cx.loc o = .pointer (some ⟨b, 0, none⟩) ∧ w.heap[b]? = some (.cells (List.toArray vs) T (0, 0)) ∧ Vs cx w (cs.set k (.sv (.val v))) vs ∧ k < cs.length ∧ cx.inn o = bk v ∧ bk v ≠ some b ∧
      isRef v = true ∧ (∀ e ∈ ys, e.length = sz) ∧ ∃ us, w.ownsRow 0 Te sz v ys.length us ∧ Vs cx w (ys.flatten.map LV.sv) us ∧ ∀ u ∈ us, u.oneCell' = true
  | .raw x => ∃ b, cx.loc o = .map (some b) ∧ w.heap[b]? = some x
  | .loop fn N E ps assign body st pd => ∃ l T df, bk (cx.loc o) = some l ∧ w.heap[l]? = some (.loop { state := st, pending := pd, fn := fn, tmps := T, params := ps, assign := assign, body := body, defers := df }) ∧ T.size = N ∧
      ∀ t e, E.lookup t = some e → EntOk cx w e (T.getD t undef)

/-- what is not written stays -/
theorem ObjOk.mono {cx cx' : Cx} {w w' : World} (hl : CxLe cx cx') (hx : Ext cx.pr w cx'.pr w') {o : Nat} {x : LO} (ho : cx.A o)
    (hh : ∀ b, cx.has o x b → b < w.heap.size → w'.heap[b]? = w.heap[b]?) (hi : cx'.inn o = cx.inn o) (h : ObjOk cx w o x) : ObjOk cx' w' o x := by
  have hlo := (hl o ho).2
  have hh' : ∀ b, bk (cx.loc o) = some b → b < w.heap.size → w'.heap[b]? = w.heap[b]? := fun b hb => hh b (.inl hb)
  have lt : ∀ {b : Nat} {y : Obj}, w.heap[b]? = some y → b < w.heap.size := fun h => (Array.getElem?_eq_some_iff.1 h).1
  cases x with
  | box T cs =>
    obtain ⟨b, vs, h1, h2, h3⟩ := h
    refine ⟨b, vs, by rw [hlo]; exact h1, ?_, Vs.mono hl hx cs vs h3⟩
    rw [hh' b (by rw [h1]; rfl) (lt h2)]; exact h2
  | row T sz xs =>
    obtain ⟨hs, vs, h1, h2, h3⟩ := h
    refine ⟨hs, vs, ?_, Vs.mono hl hx _ vs h2, h3⟩
    rw [hlo]
    refine ⟨h1.1, ?_⟩
    rcases h1.2 with hn | ⟨g, cap, cur, hv, hb, hg, rest⟩
    · exact .inl hn
    · refine .inr ⟨g, cap, cur, hv, hb, ?_, rest⟩
      rw [hh' g (by rw [hv]; rfl) (lt hg)]; exact hg
  | rs T sz ys =>
    obtain ⟨hs, vs, h1, h2, h3⟩ := h
    refine ⟨hs, vs, ?_, Vs.mono hl hx _ vs h2, h3⟩
    rw [hlo]
    refine ⟨h1.1, ?_⟩
    rcases h1.2 with hn | ⟨g, cap, cur, hv, hb, hg, rest⟩
    · exact .inl hn
    · refine .inr ⟨g, cap, cur, hv, hb, ?_, rest⟩
      rw [hh' g (by rw [hv]; rfl) (lt hg)]; exact hg
  | bx T cs k Te sz ys =>
    obtain ⟨b, vs, v, h1, h2, h3, h4, h5, h5', h5'', h6, us, h7, h8, h9⟩ := h
    refine ⟨b, vs, v, by rw [hlo]; exact h1, ?_, Vs.mono hl hx _ vs h3, h4, by rw [hi]; exact h5, h5', h5'', h6, us, ?_, Vs.mono hl hx _ us h8, h9⟩
    · rw [hh' b (by rw [h1]; rfl) (lt h2)]; exact h2
    · refine ⟨h7.1, ?_⟩
      rcases h7.2 with hn | ⟨g, cap, cur, hv, hb, hg, rest⟩
      · exact .inl hn
      · refine .inr ⟨g, cap, cur, hv, hb, ?_, rest⟩
        rw [hh g (.inr ⟨rfl, by rw [h5, hv]; rfl⟩) (lt hg)]; exact hg
  | raw x =>
    obtain ⟨b, h1, h2⟩ := h
    exact ⟨b, by rw [hlo]; exact h1, by rw [hh' b (by rw [h1]; rfl) (lt h2)]; exact h2⟩
  | loop fn N E ps assign body st pd =>
    obtain ⟨l, T, df, h1, h2, h3, h4⟩ := h
    exact ⟨l, T, df, by rw [hlo]; exact h1, by rw [hh' l h1 (lt h2)]; exact h2, h3, fun t e he => (h4 t e he).mono hl hx⟩

/-- from (pr0, w0) to (pr, w): only blocks in md, and new ones, have turned -/
structure Grow (md : Nat → Prop) (pr0 : Nat → Nat) (w0 : World) (pr : Nat → Nat) (w : World) : Prop where
  os : w.os = w0.os
  tape : w.tape = w0.tape
  output : w.output = w0.output
  size : w0.heap.size ≤ w.heap.size
  same : ∀ b, b < w0.heap.size → ¬ md b → w.heap[b]? = w0.heap[b]?
  prs : ∀ b, b < w0.heap.size → ¬ md b → pr b = pr0 b
  ext : Ext pr0 w0 pr w

theorem Grow.refl (md : Nat → Prop) (pr : Nat → Nat) (w : World) : Grow md pr w pr w :=
  ⟨rfl, rfl, rfl, Nat.le_refl _, fun _ _ _ => rfl, fun _ _ _ => rfl, Ext.refl _ _⟩
theorem Grow.trans {md md' : Nat → Prop} {p0 p1 p2 : Nat → Nat} {w0 w1 w2 : World} (h : Grow md p0 w0 p1 w1) (k : Grow md' p1 w1 p2 w2)
    (hm : ∀ b, b < w0.heap.size → md' b → md b) : Grow md p0 w0 p2 w2 :=
  ⟨k.os.trans h.os, k.tape.trans h.tape, k.output.trans h.output, Nat.le_trans h.size k.size,
   fun b hb hn => (k.same b (Nat.lt_of_lt_of_le hb h.size) (fun hm' => hn (hm b hb hm'))).trans (h.same b hb hn),
   fun b hb hn => (k.prs b (Nat.lt_of_lt_of_le hb h.size) (fun hm' => hn (hm b hb hm'))).trans (h.prs b hb hn),
   h.ext.trans k.ext⟩

/-- the package-level tables that a seat speaks of lie as they were laid, and are not written -/
def Amb (pr : Nat → Nat) (w : World) : Prop := (∀ p ∈ tabs, 0 < pr p.1 ∧ ∃ T fr, w.heap[p.1]? = some (.cells p.2.toArray T fr)) ∧
  ∀ b ∈ sents, 0 < pr b ∧ ∃ T fr tp p, w.heap[b]? = some (.cells #[.iface tp p] T fr)
theorem Amb.ext {pr pr' : Nat → Nat} {w : World} (h : Amb pr w) (hx : Ext pr w pr' w) : Amb pr' w := ⟨fun p hp =>
  ⟨Nat.lt_of_lt_of_le (h.1 p hp).1 (Ext.le hx p.1), (h.1 p hp).2⟩, fun b hb => ⟨Nat.lt_of_lt_of_le (h.2 b hb).1 (Ext.le hx b), (h.2 b hb).2⟩⟩
theorem Amb.grow {md : Nat → Prop} {pr pr' : Nat → Nat} {w w' : World} (h : Amb pr w ∧ ∀ b, md b → pr b = 0) (g : Grow md pr w pr' w') : Amb pr' w' := by
  refine ⟨fun p hp => ?_, fun b hb => ?_⟩
  · obtain ⟨h1, T, fr, h2⟩ := h.1.1 p hp
    refine ⟨Nat.lt_of_lt_of_le h1 (Ext.le g.ext p.1), T, fr, ?_⟩
    rw [g.same p.1 (Array.getElem?_eq_some_iff.1 h2).1 (fun hm => by have := h.2 _ hm; omega)]
    exact h2
  · obtain ⟨h1, T, fr, tp, p, h2⟩ := h.1.2 b hb
    refine ⟨Nat.lt_of_lt_of_le h1 (Ext.le g.ext b), T, fr, tp, p, ?_⟩
    rw [g.same b (Array.getElem?_eq_some_iff.1 h2).1 (fun hm => by have := h.2 _ hm; omega)]
    exact h2

abbrev Hp := Nat → Option LO

/-- the objects of H lie as H says; none lies in a block that closed values speak of -/
structure HOk (md : Nat → Prop) (n0 : Nat) (cx : Cx) (H : Hp) (w : World) : Prop where
  ok : ∀ o x, H o = some x → cx.A o ∧ ObjOk cx w o x
  own : ∀ o x b, H o = some x → cx.has o x b → cx.pr b = 0 ∧ b < w.heap.size ∧ (n0 ≤ b ∨ md b)
  inj : ∀ o o' x x' b, o ≠ o' → H o = some x → H o' = some x' → cx.has o x b → ¬ cx.has o' x' b
  lim : ∀ b, 0 < cx.pr b → b < w.heap.size

/-- the blocks of some objects -/
def blks (cx : Cx) (H : Hp) (b : Nat) : Prop := ∃ o x, H o = some x ∧ cx.has o x b

/-- a step: it takes the objects of Hi and leaves those of Ho; 'new' are their new names -/
structure Tr (cx : Cx) (w : World) (Hi : Hp) (cx' : Cx) (w' : World) (Ho : Hp) (new : Nat → Prop) : Prop where
  le : CxLe cx cx'
  A : ∀ o, cx'.A o ↔ cx.A o ∨ new o
  grow : Grow (blks cx Hi) cx.pr w cx'.pr w'
  heap : HOk (blks cx Hi) w.heap.size cx' Ho w'
  inn : ∀ o, cx.A o → Hi o = none → cx'.inn o = cx.inn o

def Hp.upd (H Hi Ho : Hp) : Hp := fun o => match Ho o with
  | some x => some x
  | none => match Hi o with
    | some _ => none
    | none => H o

theorem HOk.step {md : Nat → Prop} {n0 : Nat} {cx cx' : Cx} {H Hi Ho : Hp} {w w' : World} {new : Nat → Prop} (h : HOk md n0 cx H w)
    (hn0 : n0 ≤ w.heap.size) (hi : ∀ o x, Hi o = some x → H o = some x) (t : Tr cx w Hi cx' w' Ho new) (hno : ∀ o, new o → ¬ cx.A o)
    (hdom : ∀ o x, Ho o = some x → (Hi o).isSome ∨ new o) :
    HOk md n0 cx' (H.upd Hi Ho) w' := by
  -- an object that is not touched
  have other : ∀ o x, Ho o = none → Hi o = none → H o = some x → cx'.A o ∧ (∀ b, cx'.has o x b ↔ cx.has o x b) ∧ ObjOk cx' w' o x ∧
      (∀ b, cx.has o x b → b < w.heap.size ∧ ¬ blks cx Hi b) := by
    intro o x _ h2 h3
    obtain ⟨hA, hO⟩ := h.ok o x h3
    have hnb : ∀ b, cx.has o x b → b < w.heap.size ∧ ¬ blks cx Hi b := by
      intro b hb
      refine ⟨(h.own o x b h3 hb).2.1, ?_⟩
      rintro ⟨o', x', h', hb'⟩
      have hne : o ≠ o' := by rintro rfl; rw [h2] at h'; cases h'
      exact h.inj o o' x x' b hne h3 (hi _ _ h') hb hb'
    have hinn := t.inn o hA h2
    refine ⟨(t.le o hA).1, fun b => by unfold Cx.has; rw [(t.le o hA).2, hinn], ?_, hnb⟩
    exact hO.mono t.le t.grow.ext hA (fun b hb hlt => t.grow.same b hlt (hnb b hb).2) hinn
  have split : ∀ o x, (H.upd Hi Ho) o = some x → Ho o = some x ∨ (Ho o = none ∧ Hi o = none ∧ H o = some x) := by
    intro o x hx
    unfold Hp.upd at hx
    split at hx
    · left; rename_i y hy; cases hx; exact hy
    · rename_i hy
      split at hx
      · cases hx
      · rename_i hz; exact .inr ⟨hy, hz, hx⟩
  constructor
  · intro o x hx
    rcases split o x hx with h1 | ⟨h1, h2, h3⟩
    · exact t.heap.ok o x h1
    · obtain ⟨a, _, c, _⟩ := other o x h1 h2 h3; exact ⟨a, c⟩
  · intro o x b hx hb
    rcases split o x hx with h1 | ⟨h1, h2, h3⟩
    · obtain ⟨a1, a2, a3⟩ := t.heap.own o x b h1 hb
      refine ⟨a1, a2, ?_⟩
      rcases a3 with a3 | ⟨o', x', h', hb'⟩
      · left; omega
      · exact (h.own o' x' b (hi _ _ h') hb').2.2
    · obtain ⟨_, hl, _, hk⟩ := other o x h1 h2 h3
      rw [hl] at hb
      obtain ⟨hlt, hnm⟩ := hk b hb
      obtain ⟨a1, _, a3⟩ := h.own o x b h3 hb
      exact ⟨(t.grow.prs b hlt hnm).trans a1, Nat.lt_of_lt_of_le hlt t.grow.size, a3⟩
  · intro o o' x x' b hne hx hx' hb
    rcases split o x hx with h1 | ⟨h1, h2, h3⟩ <;> rcases split o' x' hx' with k1 | ⟨k1, k2, k3⟩
    · exact t.heap.inj o o' x x' b hne h1 k1 hb
    · intro hb'
      obtain ⟨_, hl, _, hk⟩ := other o' x' k1 k2 k3
      rw [hl] at hb'
      obtain ⟨hlt, hnm⟩ := hk b hb'
      rcases (t.heap.own o x b h1 hb).2.2 with hh | hh
      · omega
      · exact hnm hh
    · intro hb'
      obtain ⟨_, hl, _, hk⟩ := other o x h1 h2 h3
      rw [hl] at hb
      obtain ⟨hlt, hnm⟩ := hk b hb
      rcases (t.heap.own o' x' b k1 hb').2.2 with hh | hh
      · omega
      · exact hnm hh
    · intro hb'
      obtain ⟨_, hl, _, _⟩ := other o x h1 h2 h3
      obtain ⟨_, hl', _, _⟩ := other o' x' k1 k2 k3
      rw [hl] at hb; rw [hl'] at hb'
      exact h.inj o o' x x' b hne h3 k3 hb hb'
  · exact t.heap.lim

end Go.Proofs.YtnamkhifmankmaaDoor

/- What the slots of a frame hold; the contract of one operation; a region in whatever order its edges allow comes to what it comes to in the order of the text (its conditions: each operation's contract along the text's order; operations that no edge orders touch nothing in common). -/
namespace Go.Proofs.YtnamkhifmankmaaDoor

abbrev Ent := Bool × LV
abbrev En := Nat → Option Ent

structure Base where
  cx : Cx
  w : World
  md : Nat → Prop
  amb : Amb cx.pr w ∧ ∀ b, md b → cx.pr b = 0

structure St where
  E : En
  H : Hp
  A : Nat → Prop

/-- the mark of a block of deferred calls -/
def mkd (cx : Cx) (o : Nat) : Deferred := { target := .collected ((bk (cx.loc o)).getD 0), args := #[] }

structure Rel (B : Base) (N : Nat) (D : List Nat) (S : St) (cx : Cx) (a : Act) (w : World) : Prop where
  grow : Grow B.md B.cx.pr B.w cx.pr w
  le : CxLe B.cx cx
  hA : cx.A = S.A
  heap : HOk B.md B.w.heap.size cx S.H w
  size : a.tmps.size = N
  env : ∀ t e, S.E t = some e → EntOk cx w e (a.tmps.getD t undef)
  df : a.defers = D.map (mkd cx)
  dA : ∀ o ∈ D, cx.A o

abbrev FW (r : Option Nat) : Fence := { Fence.wide with round := r }

abbrev hp (l : List (Nat × LO)) : Hp := fun o => l.lookup o
abbrev en (l : List (Nat × Ent)) : En := fun t => l.lookup t

/-- the contract of one operation -/
def OpC (P : Program) (r : Option Nat) (o : Oper) (lvs : List LV) (rd Hi : List (Nat × LO)) (out : LV) (Ho : List (Nat × LO)) (new : List Nat) : Prop :=
  (∀ p ∈ Ho, p.1 ∈ Hi.map (·.1) ∨ p.1 ∈ new) ∧
  ∀ (md : Nat → Prop) (n0 : Nat) (cx : Cx) (H : Hp) (a : Act) (w : World) (K : Act → World → Prop) (Q : Exit → Act → World → Prop),
    HOk md n0 cx H w → Amb cx.pr w → (∀ o x, hp rd o = some x → H o = some x) → (∀ o x, hp Hi o = some x → H o = some x) → (∀ i ∈ new, ¬ cx.A i) →
    Vs cx w lvs (o.op.operands.toList.map a.eval) →
    (∀ cx' w' v, Tr cx w (hp Hi) cx' w' (hp Ho) (· ∈ new) → V cx' w' out v → K (a.put o.dst v) w') →
    o.wpIn (FW r) 0 P a w K Q

/-- a contract at its place in a region -/
structure Ct where
  need : List (Nat × Ent)
  d : Option Nat
  e : Ent
  rd : List (Nat × LO)
  Hi : List (Nat × LO)
  Ho : List (Nat × LO)
  new : List Nat

def Ct.pre (c : Ct) (S : St) : Prop :=
  (∀ p ∈ c.need, S.E p.1 = some p.2) ∧ (∀ o x, hp c.rd o = some x → S.H o = some x) ∧ (∀ o x, hp c.Hi o = some x → S.H o = some x) ∧ (∀ i ∈ c.new, ¬ S.A i)

def putE (d : Option Nat) (e : Ent) (E : En) : En := fun t => if d = some t then some e else E t

def Ct.app (c : Ct) (S : St) : St := ⟨putE c.d c.e S.E, S.H.upd (hp c.Hi) (hp c.Ho), fun o => S.A o ∨ o ∈ c.new⟩

def CtOk (P : Program) (r : Option Nat) (N : Nat) (D : List Nat) (B : Base) (all : Array Oper) (i : Nat) (c : Ct) : Prop :=
  ∀ (S : St) (cx : Cx) (a : Act) (w : World) (K : Act → World → Prop) (Q : Exit → Act → World → Prop), c.pre S → Rel B N D S cx a w →
    (∀ cx' a' w', Rel B N D (c.app S) cx' a' w' → K a' w') → wpOpIn (FW r) 0 P all Q i K a w

def Ct.sl (c : Ct) : List Nat := c.need.map (·.1)
def Ct.rdi (c : Ct) : List Nat := c.rd.map (·.1)
def Ct.wri (c : Ct) : List Nat := c.Hi.map (·.1) ++ (c.Ho.map (·.1) ++ c.new)

def indep (c d : Ct) : Bool :=
  (match c.d with | some x => !(d.sl.contains x) && d.d != some x | none => true) &&
  (match d.d with | some x => !(c.sl.contains x) | none => true) &&
  c.wri.all (fun o => !(d.wri.contains o) && !(d.rdi.contains o)) && d.wri.all (fun o => !(c.rdi.contains o))

theorem lookup_mem {α : Type} {l : List (Nat × α)} {o : Nat} {x : α} (h : l.lookup o = some x) : o ∈ l.map (·.1) := by
  induction l with
  | nil => simp at h
  | cons p l ih =>
    obtain ⟨k, v⟩ := p
    simp only [List.lookup_cons] at h
    split at h
    · rename_i hk; simp at hk; simp [hk]
    · simp [ih h]

theorem indep_spec {c d : Ct} (h : indep c d = true) :
    (∀ x, c.d = some x → x ∉ d.sl ∧ d.d ≠ some x) ∧ (∀ x, d.d = some x → x ∉ c.sl) ∧
    (∀ o ∈ c.wri, o ∉ d.wri ∧ o ∉ d.rdi) ∧ (∀ o ∈ d.wri, o ∉ c.rdi) := by
  unfold indep at h
  simp only [Bool.and_eq_true, List.all_eq_true, Bool.not_eq_true', List.contains_eq_mem, decide_eq_false_iff_not] at h
  obtain ⟨⟨⟨h1, h2⟩, h3⟩, h4⟩ := h
  refine ⟨fun x hx => ?_, fun x hx => ?_, h3, h4⟩
  · rw [hx] at h1; simpa using h1
  · rw [hx] at h2; simpa using h2

theorem upd_other {H : Hp} {Hi Ho : List (Nat × LO)} {o : Nat} (h1 : o ∉ Hi.map (·.1)) (h2 : o ∉ Ho.map (·.1)) : (H.upd (hp Hi) (hp Ho)) o = H o := by
  unfold Hp.upd
  have e1 : hp Ho o = none := by
    cases hx : hp Ho o with
    | none => rfl
    | some x => exact absurd (lookup_mem hx) h2
  have e2 : hp Hi o = none := by
    cases hx : hp Hi o with
    | none => rfl
    | some x => exact absurd (lookup_mem hx) h1
  rw [e1, e2]

theorem upd_own {H H' : Hp} {Hi Ho : List (Nat × LO)} {o : Nat} (h : o ∈ Hi.map (·.1) ∨ o ∈ Ho.map (·.1)) (hh : o ∈ Ho.map (·.1) ∨ o ∈ Hi.map (·.1) → True) :
    (H.upd (hp Hi) (hp Ho)) o = (H'.upd (hp Hi) (hp Ho)) o := by
  unfold Hp.upd
  cases hx : hp Ho o with
  | some x => rfl
  | none =>
    cases hy : hp Hi o with
    | some y => rfl
    | none =>
      exfalso
      have none_of : ∀ (l : List (Nat × LO)), l.lookup o = none → o ∉ l.map (·.1) := by
        intro l hl hm
        induction l with
        | nil => simp at hm
        | cons p l ih =>
          obtain ⟨k, v⟩ := p
          simp only [List.lookup_cons] at hl
          split at hl
          · cases hl
          · rename_i hk
            simp at hk
            simp only [List.map_cons, List.mem_cons] at hm
            rcases hm with hm | hm
            · exact hk hm
            · exact ih hl hm
      rcases h with h | h
      · exact none_of _ hy h
      · exact none_of _ hx h

theorem Ct.swap {c d : Ct} {S : St} (hi : indep c d = true) (hc : c.pre S) (hd : d.pre (c.app S)) :
    d.pre S ∧ c.pre (d.app S) ∧ d.app (c.app S) = c.app (d.app S) := by
  obtain ⟨h1, h2, h3, h4⟩ := indep_spec hi
  obtain ⟨c1, c2, c3, c4⟩ := hc
  obtain ⟨d1, d2, d3, d4⟩ := hd
  have memwri : ∀ {c : Ct} {o : Nat}, o ∈ c.wri ↔ o ∈ c.Hi.map (·.1) ∨ o ∈ c.Ho.map (·.1) ∨ o ∈ c.new := by intro c o; simp [Ct.wri, or_assoc]
  refine ⟨⟨fun p hp' => ?_, fun o x ho => ?_, fun o x ho => ?_, fun i hi' => ?_⟩, ⟨fun p hp' => ?_, fun o x ho => ?_, fun o x ho => ?_, fun i hi' => ?_⟩, ?_⟩
  · have hx := d1 p hp'
    simp only [Ct.app, putE] at hx
    split at hx
    · rename_i he
      exact absurd (List.mem_map.2 ⟨p, hp', rfl⟩) (h1 _ he).1
    · exact hx
  · have hm : o ∈ d.rdi := lookup_mem ho
    have hx := d2 o x ho
    have hno : o ∉ c.wri := fun hw => (h3 o hw).2 hm
    rw [memwri] at hno
    simp only [Ct.app] at hx
    rwa [upd_other (fun h => hno (.inl h)) (fun h => hno (.inr (.inl h)))] at hx
  · have hm : o ∈ d.wri := memwri.2 (.inl (lookup_mem ho))
    have hx := d3 o x ho
    have hno : o ∉ c.wri := fun hw => (h3 o hw).1 hm
    rw [memwri] at hno
    simp only [Ct.app] at hx
    rwa [upd_other (fun h => hno (.inl h)) (fun h => hno (.inr (.inl h)))] at hx
  · exact fun hA => d4 i hi' (.inl hA)
  · have hx := c1 p hp'
    simp only [Ct.app, putE]
    split
    · rename_i he
      exact absurd (List.mem_map.2 ⟨p, hp', rfl⟩) (h2 _ he)
    · exact hx
  · have hm : o ∈ c.rdi := lookup_mem ho
    have hno : o ∉ d.wri := fun hw => h4 o hw hm
    rw [memwri] at hno
    simp only [Ct.app]
    rw [upd_other (fun h => hno (.inl h)) (fun h => hno (.inr (.inl h)))]
    exact c2 o x ho
  · have hm : o ∈ c.wri := memwri.2 (.inl (lookup_mem ho))
    have hno : o ∉ d.wri := (h3 o hm).1
    rw [memwri] at hno
    simp only [Ct.app]
    rw [upd_other (fun h => hno (.inl h)) (fun h => hno (.inr (.inl h)))]
    exact c3 o x ho
  · rintro (hA | hA)
    · exact c4 i hi' hA
    · exact (h3 i (memwri.2 (.inr (.inr hi')))).1 (memwri.2 (.inr (.inr hA)))
  · simp only [Ct.app]
    congr 1
    · funext t
      simp only [putE]
      by_cases e1 : c.d = some t <;> by_cases e2 : d.d = some t <;> simp [e1, e2]
      exact absurd e2 (h1 t e1).2
    · funext o
      by_cases e1 : o ∈ c.wri
      · have e2 : o ∉ d.wri := (h3 o e1).1
        rw [memwri] at e2
        rw [upd_other (fun h => e2 (.inl h)) (fun h => e2 (.inr (.inl h)))]
        by_cases e3 : o ∈ c.Hi.map (·.1) ∨ o ∈ c.Ho.map (·.1)
        · exact upd_own e3 (fun _ => trivial)
        · rw [upd_other (fun h => e3 (.inl h)) (fun h => e3 (.inr h)), upd_other (fun h => e3 (.inl h)) (fun h => e3 (.inr h)), upd_other (fun h => e2 (.inl h)) (fun h => e2 (.inr (.inl h)))]
      · rw [memwri] at e1
        rw [upd_other (H := S.H.upd (hp d.Hi) (hp d.Ho)) (Hi := c.Hi) (fun h => e1 (.inl h)) (fun h => e1 (.inr (.inl h)))]
        by_cases e3 : o ∈ d.Hi.map (·.1) ∨ o ∈ d.Ho.map (·.1)
        · exact upd_own e3 (fun _ => trivial)
        · rw [upd_other (fun h => e3 (.inl h)) (fun h => e3 (.inr h)), upd_other (fun h => e3 (.inl h)) (fun h => e3 (.inr h)), upd_other (fun h => e1 (.inl h)) (fun h => e1 (.inr (.inl h)))]
    · funext o
      simp only [or_assoc, eq_iff_iff]
      constructor
      · rintro (h | h | h)
        · exact .inl h
        · exact .inr (.inr h)
        · exact .inr (.inl h)
      · rintro (h | h | h)
        · exact .inl h
        · exact .inr (.inr h)
        · exact .inr (.inl h)

/-- contracts in a row, in the order of the text -/
inductive Chain (P : Program) (r : Option Nat) (N : Nat) (D : List Nat) (B : Base) (all : Array Oper) : List (Nat × Ct) → St → St → Prop
  | nil (S : St) : Chain P r N D B all [] S S
  | cons {i : Nat} {c : Ct} {l : List (Nat × Ct)} {S S' : St} (h : CtOk P r N D B all i c) (hp : c.pre S) (h' : Chain P r N D B all l (c.app S) S') : Chain P r N D B all ((i, c) :: l) S S'

section
variable {P : Program} {r : Option Nat} {N : Nat} {D : List Nat} {B : Base} {all : Array Oper}

theorem Chain.pull {i : Nat} {c : Ct} {post : List (Nat × Ct)} : ∀ {pre : List (Nat × Ct)} {S S' : St}, (∀ q ∈ pre, indep q.2 c = true) →
    Chain P r N D B all (pre ++ (i, c) :: post) S S' → CtOk P r N D B all i c ∧ c.pre S ∧ Chain P r N D B all (pre ++ post) (c.app S) S'
  | [], S, S', _, h => by
    cases h with
    | cons h hp h' => exact ⟨h, hp, h'⟩
  | q :: pre, S, S', hind, h => by
    obtain ⟨j, d⟩ := q
    cases h with
    | cons h hp h' =>
      obtain ⟨k1, k2, k3⟩ := Chain.pull (fun q hq => hind q (List.mem_cons_of_mem _ hq)) h'
      obtain ⟨s1, s2, s3⟩ := Ct.swap (hind (j, d) List.mem_cons_self) hp k2
      rw [s3] at k3
      exact ⟨k1, s1, .cons h s2 k3⟩

/-- the operations that an operation waits for -/
def depsOf (all : Array Oper) (i : Nat) : List Nat :=
  match all[i]? with
  | some o => (o.after.toList.filter (Region.binds .any ·)).map (·.on)
  | none => []

def ordf (all : Array Oper) : Nat → Nat → Nat → Bool
  | 0, _, _ => false
  | f + 1, j, i => (depsOf all i).contains j || (depsOf all i).any (fun d => decide (j < d) && ordf all f j d)

theorem ordf_spec (listed : Nat → Prop) (hc : ∀ k, listed k → ∀ d ∈ depsOf all k, listed d) : ∀ (f j i : Nat), ordf all f j i = true → (∀ d ∈ depsOf all i, listed d) → listed j := by
  intro f
  induction f with
  | zero => intro j i h; simp [ordf] at h
  | succ f ih =>
    intro j i h hd
    simp only [ordf, Bool.or_eq_true, List.contains_eq_mem, decide_eq_true_eq, List.any_eq_true, Bool.and_eq_true] at h
    rcases h with h | ⟨d, h1, _, h2⟩
    · exact hd j h
    · exact ih j d h2 (hc d (hd d h1))

/-- every two operations are ordered by edges, or touch nothing in common -/
def pairsOk (all : Array Oper) : List (Nat × Ct) → Bool
  | [] => true
  | (j, d) :: l => l.all (fun q => indep d q.2 || ordf all (q.1 + 1) j q.1) && pairsOk all l

def edgesOk (all : Array Oper) : Bool := (List.range all.size).all fun i => (depsOf all i).all (fun d => decide (d < i))

theorem pairsOk_pre {i : Nat} {c : Ct} {post : List (Nat × Ct)} : ∀ {pre : List (Nat × Ct)}, pairsOk all (pre ++ (i, c) :: post) = true →
    (∀ q ∈ pre, indep q.2 c = true ∨ ordf all (i + 1) q.1 i = true) ∧ pairsOk all (pre ++ post) = true
  | [], h => by
    simp only [List.nil_append, pairsOk, Bool.and_eq_true] at h
    exact ⟨by simp, h.2⟩
  | (j, d) :: pre, h => by
    simp only [List.cons_append, pairsOk, Bool.and_eq_true, List.all_eq_true, Bool.or_eq_true] at h
    obtain ⟨h1, h2⟩ := h
    obtain ⟨k1, k2⟩ := pairsOk_pre h2
    refine ⟨fun q hq => ?_, ?_⟩
    · rcases List.mem_cons.1 hq with rfl | hq
      · exact h1 (i, c) (by simp)
      · exact k1 q hq
    · simp only [List.cons_append, pairsOk, Bool.and_eq_true, List.all_eq_true, Bool.or_eq_true]
      refine ⟨fun q hq => h1 q ?_, k2⟩
      simp only [List.mem_append, List.mem_cons] at hq ⊢
      rcases hq with hq | hq
      · exact .inl hq
      · exact .inr (.inr hq)

theorem mem_ready {listed : Array Bool} {i : Nat} : i ∈ Region.ready .any all listed ↔
    i < all.size ∧ listed.getD i true = false ∧ ∀ d ∈ depsOf all i, listed.getD d false = true := by
  unfold Region.ready depsOf
  simp only [List.mem_filter, List.mem_range, Bool.and_eq_true, Bool.not_eq_true']
  constructor
  · rintro ⟨h1, h2, h3⟩
    refine ⟨h1, h2, ?_⟩
    rw [Array.getElem?_eq_getElem h1] at h3 ⊢
    simp only [Option.map_some, Option.getD_some, Array.all_eq_true'] at h3
    intro d hd
    simp only [List.mem_map, List.mem_filter, Array.mem_toList_iff] at hd
    obtain ⟨e, ⟨he, hb⟩, rfl⟩ := hd
    have := h3 e he
    simpa [hb] using this
  · rintro ⟨h1, h2, h3⟩
    refine ⟨h1, h2, ?_⟩
    rw [Array.getElem?_eq_getElem h1] at h3 ⊢
    simp only [Option.map_some, Option.getD_some, Array.all_eq_true']
    intro e he
    cases hb : Region.binds .any e with
    | false => simp
    | true =>
      have := h3 e.on (List.mem_map.2 ⟨e, List.mem_filter.2 ⟨by simpa using he, hb⟩, rfl⟩)
      simp [this]

theorem region_any_order {Q : Exit → Act → World → Prop} (hE : edgesOk all = true) {Sn : St} (hQ : ∀ cx a w, Rel B N D Sn cx a w → Q .normal a w) :
    ∀ (fuel : Nat) (rem : List (Nat × Ct)) (listed : Array Bool) (S : St) (cx : Cx) (a : Act) (w : World), rem.length ≤ fuel → listed.size = all.size →
      (rem.map (·.1)).Pairwise (· < ·) → (∀ i, i < all.size → (listed.getD i true = false ↔ i ∈ rem.map (·.1))) → (∀ i ∈ rem.map (·.1), i < all.size) →
      (∀ k, listed.getD k false = true → ∀ d ∈ depsOf all k, listed.getD d false = true) →
      pairsOk all rem = true → Chain P r N D B all rem S Sn → Rel B N D S cx a w → wpAnyIn (FW r) 0 P .any all Q fuel listed a w := by
  have hE' : ∀ i, i < all.size → ∀ d ∈ depsOf all i, d < i := by
    intro i hi d hd
    unfold edgesOk at hE
    simp only [List.all_eq_true, List.mem_range, decide_eq_true_eq] at hE
    exact hE i hi d hd
  have done : ∀ (rem : List (Nat × Ct)) (listed : Array Bool), listed.size = all.size → (rem.map (·.1)).Pairwise (· < ·) → (∀ i, i < all.size → (listed.getD i true = false ↔ i ∈ rem.map (·.1))) → (∀ i ∈ rem.map (·.1), i < all.size) →
      Region.ready .any all listed = [] → rem = [] := by
    intro rem listed hsz hs hl hb hr
    cases rem with
    | nil => rfl
    | cons q rest =>
      exfalso
      obtain ⟨i, c⟩ := q
      have hi : i < all.size := hb i (by simp)
      have : i ∈ Region.ready .any all listed := by
        rw [mem_ready]
        refine ⟨hi, (hl i hi).2 (by simp), fun d hd => ?_⟩
        have hlt := hE' i hi d hd
        have hnot : d ∉ ((i, c) :: rest).map (·.1) := by
          simp only [List.map_cons, List.pairwise_cons] at hs
          simp only [List.map_cons, List.mem_cons, not_or]
          exact ⟨by omega, fun hm => by have := hs.1 d hm; omega⟩
        have hd1 : listed.getD d true ≠ false := fun h => hnot ((hl d (by omega)).1 h)
        have hdl : d < listed.size := by omega
        simp only [Array.getD_eq_getD_getElem?, Array.getElem?_eq_getElem hdl, Option.getD_some] at hd1 ⊢
        simpa using hd1
      rw [hr] at this
      simp at this
  intro fuel
  induction fuel with
  | zero =>
    intro rem listed S cx a w hlen hsz hs hl hb hcl hp hch hrel
    have hn : rem = [] := List.eq_nil_of_length_eq_zero (by omega)
    subst hn
    cases hch
    refine ⟨?_, hQ _ _ _ hrel⟩
    apply List.eq_nil_iff_forall_not_mem.2
    intro i hi
    rw [mem_ready] at hi
    have := (hl i hi.1).1 hi.2.1
    simp at this
  | succ fuel ih =>
    intro rem listed S cx a w hlen hsz hs hl hb hcl hp hch hrel
    refine ⟨fun hr => ?_, fun i hi => ?_⟩
    · have hn := done rem listed hsz hs hl hb hr
      subst hn
      cases hch
      exact hQ _ _ _ hrel
    · rw [mem_ready] at hi
      obtain ⟨hi1, hi2, hi3⟩ := hi
      have hm : i ∈ rem.map (·.1) := (hl i hi1).1 hi2
      obtain ⟨⟨i', c⟩, hq, rfl⟩ := List.mem_map.1 hm
      obtain ⟨pre, post, rfl⟩ := List.append_of_mem hq
      obtain ⟨p1, p2⟩ := pairsOk_pre hp
      have notl : ∀ k, k ∈ (pre ++ (i', c) :: post).map (·.1) → listed.getD k false = false := by
        intro k hk
        have hk1 := hb k hk
        have := (hl k hk1).2 hk
        have hkl : k < listed.size := by omega
        simp only [Array.getD_eq_getD_getElem?, Array.getElem?_eq_getElem hkl, Option.getD_some] at this ⊢
        exact this
      have hind : ∀ q ∈ pre, indep q.2 c = true := by
        intro q hqp
        rcases p1 q hqp with h | h
        · exact h
        · exfalso
          have := ordf_spec (all := all) (fun k => listed.getD k false = true) hcl _ _ _ h hi3
          rw [notl q.1 (List.mem_map.2 ⟨q, by simp [hqp], rfl⟩)] at this
          cases this
      obtain ⟨k1, k2, k3⟩ := Chain.pull hind hch
      have hsub : ((pre ++ post).map (·.1)).Sublist ((pre ++ (i', c) :: post).map (·.1)) := by
        simp only [List.map_append, List.map_cons]
        exact List.Sublist.append_left (List.sublist_cons_self _ _) _
      have hnd : i' ∉ (pre ++ post).map (·.1) := by
        simp only [List.map_append, List.map_cons] at hs ⊢
        rw [List.pairwise_append] at hs
        obtain ⟨_, s2, s3⟩ := hs
        rw [List.pairwise_cons] at s2
        simp only [List.mem_append, not_or]
        exact ⟨fun h => by have := s3 i' h i' (by simp); omega, fun h => by have := s2.1 i' h; omega⟩
      have hset : ∀ k b, (listed.setIfInBounds i' true).getD k b = if k = i' then true else listed.getD k b := by
        intro k b
        simp only [Array.getD_eq_getD_getElem?, Array.getElem?_setIfInBounds]
        by_cases h : i' = k
        · subst h; simp [show i' < listed.size by omega]
        · simp [h, Ne.symm h]
      refine k1 S cx a w _ Q k2 hrel (fun cx' a' w' hrel' => ih (pre ++ post) _ (c.app S) cx' a' w' ?_ (by simpa using hsz) (hs.sublist hsub) ?_ (fun j hj => hb j (hsub.subset hj)) ?_ p2 k3 hrel')
      · simp only [List.length_append, List.length_cons] at hlen ⊢; omega
      · intro k hk
        rw [hset]
        by_cases hki : k = i'
        · subst hki
          rw [if_pos rfl]
          exact ⟨fun h => by simp at h, fun h => absurd h hnd⟩
        · rw [if_neg hki, hl k hk]
          simp only [List.map_append, List.map_cons, List.mem_append, List.mem_cons]
          constructor
          · rintro (h | h | h)
            · exact .inl h
            · exact absurd h hki
            · exact .inr h
          · rintro (h | h)
            · exact .inl h
            · exact .inr (.inr h)
      · intro k hk d hd
        rw [hset] at hk ⊢
        by_cases hdi : d = i'
        · simp [hdi]
        · rw [if_neg hdi]
          by_cases hki : k = i'
          · subst hki; exact hi3 d hd
          · rw [if_neg hki] at hk; exact hcl k hk d hd

theorem region_text_order {Q : Exit → Act → World → Prop} {Sn : St} (hQ : ∀ cx a w, Rel B N D Sn cx a w → Q .normal a w) :
    ∀ (rem : List (Nat × Ct)) (S : St) (cx : Cx) (a : Act) (w : World), Chain P r N D B all rem S Sn → Rel B N D S cx a w → wpOpsIn (FW r) 0 P all Q (rem.map (·.1)) a w := by
  intro rem
  induction rem with
  | nil => intro S cx a w h hr; cases h; simp only [List.map_nil, wpOpsIn]; exact hQ _ _ _ hr
  | cons q rest ih =>
    intro S cx a w h hr
    obtain ⟨i, c⟩ := q
    cases h with
    | cons h hp h' =>
      rw [List.map_cons, wpOpsIn_cons]
      exact h S cx a w _ Q hp hr (fun cx' a' w' hr' => ih _ _ _ _ h' hr')
end

end Go.Proofs.YtnamkhifmankmaaDoor

/- The walk over the code of a function, on logical states: one rule for each form of code (each asks that what follows it holds). -/
namespace Go.Proofs.YtnamkhifmankmaaDoor

theorem fenced_FW (P : Program) (r : Option Nat) (m : Machine) : m.fenced P (FW r) := by
  have h := fenced_wide P m
  exact h

/-! ### operands and guards -/

/-- a constant -/
def cLV : Value → LV
  | .agg cs => .agg (cs.toList.map fun c => .sv (.val c))
  | v => .sv (.val v)

theorem vs_map_val (cx : Cx) (w : World) : ∀ l : List Value, Vs cx w (l.map fun c => .sv (.val c)) l
  | [] => by simp [Vs]
  | c :: l => by simp only [List.map_cons, Vs]; exact ⟨c, l, rfl, by simp [V, VS], vs_map_val cx w l⟩
theorem V.cLV (cx : Cx) (w : World) (v : Value) : V cx w (cLV v) v := by
  cases v <;> first
    | (simp only [Go.Proofs.YtnamkhifmankmaaDoor.cLV, V]; exact ⟨_, rfl, vs_map_val cx w _⟩)
    | simp [Go.Proofs.YtnamkhifmankmaaDoor.cLV, V, VS]

def lvOf (E : En) : Operand → Option Ent
  | .tmp t => E t
  | .const v => some (true, cLV v)
  | .global g => some (true, .sv (.val (.pointer (some ⟨g, 0, none⟩))))
  | .func f => some (true, .fn (.func f) [] [])

def needOf : List Operand → List Ent → List (Nat × Ent)
  | .tmp t :: xs, e :: es => (t, e) :: needOf xs es
  | _ :: xs, _ :: es => needOf xs es
  | _, _ => []

/-- es is what the operands hold, as E says -/
def Opnds (E : En) : List Operand → List Ent → Prop
  | [], es => es = []
  | x :: xs, es => ∃ e r, es = e :: r ∧ lvOf E x = some e ∧ Opnds E xs r

theorem Opnds.need {E : En} : ∀ {xs : List Operand} {es : List Ent}, Opnds E xs es → ∀ p ∈ needOf xs es, E p.1 = some p.2
  | [], es, h, p, hp => by simp [needOf] at hp
  | x :: xs, es, h, p, hp => by
    obtain ⟨e, r, rfl, h1, h2⟩ := h
    cases x with
    | tmp t =>
      simp only [needOf, List.mem_cons] at hp
      rcases hp with rfl | hp
      · exact h1
      · exact Opnds.need h2 p hp
    | const v => exact Opnds.need h2 p (by simpa [needOf] using hp)
    | func f => exact Opnds.need h2 p (by simpa [needOf] using hp)
    | _ => exact Opnds.need h2 p (by simpa [needOf] using hp)

theorem Opnds.transfer {E E' : En} : ∀ {xs : List Operand} {es : List Ent}, Opnds E xs es → (∀ p ∈ needOf xs es, E' p.1 = some p.2) → Opnds E' xs es
  | [], es, h, _ => h
  | x :: xs, es, h, hn => by
    obtain ⟨e, r, rfl, h1, h2⟩ := h
    cases x with
    | tmp t => exact ⟨e, r, rfl, hn (t, e) (by simp [needOf]), Opnds.transfer h2 (fun p hp => hn p (by simp [needOf, hp]))⟩
    | const v => exact ⟨e, r, rfl, h1, Opnds.transfer h2 (fun p hp => hn p (by simpa [needOf] using hp))⟩
    | func f => exact ⟨e, r, rfl, h1, Opnds.transfer h2 (fun p hp => hn p (by simpa [needOf] using hp))⟩
    | _ => exact ⟨e, r, rfl, h1, Opnds.transfer h2 (fun p hp => hn p (by simpa [needOf] using hp))⟩

theorem ent_of_lvOf {B : Base} {N : Nat} {D : List Nat} {S : St} {cx : Cx} {a : Act} {w : World} (hr : Rel B N D S cx a w) {x : Operand} {e : Ent}
    (h : lvOf S.E x = some e) : EntOk cx w e (a.eval x) := by
  cases x with
  | tmp t => exact hr.env t e h
  | const v => simp only [lvOf, Option.some.injEq] at h; subst h; exact ⟨fun _ => V.cLV cx w v, fun h => by cases h⟩
  | func f => simp only [lvOf, Option.some.injEq] at h; subst h; exact ⟨fun _ => by simp [V, Vs, Act.eval], fun h => by cases h⟩
  | _ => simp only [lvOf, Option.some.injEq] at h; subst h; exact ⟨fun _ => by simp [V, VS, Act.eval], fun h => by cases h⟩

theorem eval_of_lvOf {B : Base} {N : Nat} {D : List Nat} {S : St} {cx : Cx} {a : Act} {w : World} (hr : Rel B N D S cx a w) {x : Operand} {e : Ent}
    (h : lvOf S.E x = some e) (hv : e.1 = true) : V cx w e.2 (a.eval x) := by
  cases x with
  | tmp t => exact (hr.env t e h).1 hv
  | const v => simp only [lvOf, Option.some.injEq] at h; subst h; exact V.cLV cx w v
  | func f => simp only [lvOf, Option.some.injEq] at h; subst h; simp [V, Vs, Act.eval]
  | _ => simp only [lvOf, Option.some.injEq] at h; subst h; simp [V, VS, Act.eval]

/-- what an operand's entry says of its value, whatever its sign -/
def entLV (e : Ent) : LV := match e.1 with | true => e.2 | false => .sv (.val undef)

theorem EntOk.v {cx : Cx} {w : World} {e : Ent} {x : Value} (h : EntOk cx w e x) : V cx w (entLV e) x := by
  obtain ⟨g, l⟩ := e
  cases g with
  | true => exact h.1 rfl
  | false => have := h.2 rfl; simp [entLV, V, VS, this]

theorem Opnds.vs {B : Base} {N : Nat} {D : List Nat} {S : St} {cx : Cx} {a : Act} {w : World} (hr : Rel B N D S cx a w) :
    ∀ {xs : List Operand} {es : List Ent}, Opnds S.E xs es → Vs cx w (es.map entLV) (xs.map a.eval)
  | [], es, h => by simp [Opnds] at h; subst h; simp [Vs]
  | x :: xs, es, h => by
    obtain ⟨e, r, rfl, h1, h2⟩ := h
    simp only [List.map_cons, Vs]
    exact ⟨_, _, rfl, (ent_of_lvOf hr h1).v, Opnds.vs hr h2⟩

/-- the sign under which an operation is carried out, and the slot that it hangs on -/
def GuardOk (E : En) (all : Array Oper) (gd : Option (Nat × Bool)) (g : Bool) (gn : List (Nat × Ent)) : Prop :=
  match gd with
  | none => g = true ∧ gn = []
  | some (j, want) => ∃ dj gj b, (all[j]?).bind (·.dst) = some dj ∧ E dj = some (gj, .sv (.val (.bool b))) ∧ gn = [(dj, (gj, .sv (.val (.bool b))))] ∧ g = (gj && (b == want))

theorem GuardOk.wanted {B : Base} {N : Nat} {D : List Nat} {S : St} {cx : Cx} {a : Act} {w : World} (hr : Rel B N D S cx a w) {all : Array Oper} {o : Oper} {g : Bool} {gn : List (Nat × Ent)}
    (hN : ∀ (j d : Nat), (all[j]?).bind (fun (x : Oper) => x.dst) = some d → d < N) (h : GuardOk S.E all o.guard g gn) : Region.wanted o (yielded all a.tmps) = g := by
  unfold GuardOk at h
  unfold Region.wanted
  cases hg : o.guard with
  | none => rw [hg] at h; simp [h.1]
  | some p =>
    obtain ⟨j, want⟩ := p
    rw [hg] at h
    obtain ⟨dj, gj, b, h1, h2, h3, h4⟩ := h
    have hlt : dj < a.tmps.size := by rw [hr.size]; exact hN j dj h1
    have he := hr.env dj _ h2
    rw [Array.getD_eq_getD_getElem?, Array.getElem?_eq_getElem hlt] at he
    simp only [Option.getD_some] at he
    simp only [yielded, h1, Option.bind_some, Array.getElem?_eq_getElem hlt, h4]
    cases gj with
    | true =>
      have := he.1 rfl
      simp only [V, VS] at this
      rw [this]
      cases b <;> cases want <;> rfl
    | false =>
      have := he.2 rfl
      rw [this]
      cases want <;> rfl

theorem GuardOk.need {E : En} {all : Array Oper} {gd : Option (Nat × Bool)} {g : Bool} {gn : List (Nat × Ent)} (h : GuardOk E all gd g gn) : ∀ p ∈ gn, E p.1 = some p.2 := by
  unfold GuardOk at h
  cases gd with
  | none => simp [h.2]
  | some q =>
    obtain ⟨j, want⟩ := q
    obtain ⟨dj, gj, b, h1, h2, h3, h4⟩ := h
    rw [h3]; simp [h2]

theorem GuardOk.transfer {E E' : En} {all : Array Oper} {gd : Option (Nat × Bool)} {g : Bool} {gn : List (Nat × Ent)} (h : GuardOk E all gd g gn) (hn : ∀ p ∈ gn, E' p.1 = some p.2) : GuardOk E' all gd g gn := by
  unfold GuardOk at h ⊢
  cases gd with
  | none => simpa using h
  | some q =>
    obtain ⟨j, want⟩ := q
    obtain ⟨dj, gj, b, h1, h2, h3, h4⟩ := h
    exact ⟨dj, gj, b, h1, hn (dj, (gj, .sv (.val (.bool b)))) (by rw [h3]; simp), h3, h4⟩

theorem gN {E : En} {all : Array Oper} : GuardOk E all none true [] := ⟨rfl, rfl⟩
theorem gS {E : En} {all : Array Oper} {j dj : Nat} {want gj b : Bool} (h1 : (all[j]?).bind (fun (x : Oper) => x.dst) = some dj) (h2 : E dj = some (gj, .sv (.val (.bool b)))) :
    GuardOk E all (some (j, want)) (gj && (b == want)) [(dj, (gj, .sv (.val (.bool b))))] := ⟨dj, gj, b, h1, h2, rfl, rfl⟩

section
variable {P : Program} {r : Option Nat} {N : Nat} {D : List Nat} {B : Base} {all : Array Oper}

theorem Rel.step {S : St} {cx cx' : Cx} {a : Act} {w w' : World} (hr : Rel B N D S cx a w) {c : Ct} (hpre : c.pre S) (hN : ∀ d, c.d = some d → d < N)
    (t : Tr cx w (hp c.Hi) cx' w' (hp c.Ho) (· ∈ c.new)) (hdom : ∀ p ∈ c.Ho, p.1 ∈ c.Hi.map (·.1) ∨ p.1 ∈ c.new) {v : Value} (hv : EntOk cx' w' c.e v) :
    Rel B N D (c.app S) cx' (a.put c.d v) w' := by
  obtain ⟨p1, p2, p3, p4⟩ := hpre
  have hn0 : B.w.heap.size ≤ w.heap.size := hr.grow.size
  refine ⟨hr.grow.trans t.grow ?_, hr.le.trans t.le, ?_, ?_, ?_, ?_, ?_, fun o ho => (t.le o (hr.dA o ho)).1⟩
  · rintro b hb ⟨o, x, ho, hbk⟩
    rcases (hr.heap.own o x b (p3 o x ho) hbk).2.2 with h | h
    · omega
    · exact h
  · funext o
    have := t.A o
    rw [hr.hA] at this
    exact propext this
  · refine HOk.step hr.heap hn0 p3 t (fun o ho => by rw [hr.hA]; exact p4 o ho) (fun o x ho => ?_)
    obtain ⟨q, hq, rfl⟩ := List.mem_map.1 (lookup_mem ho)
    rcases hdom q hq with h | h
    · left
      obtain ⟨q', hq', he⟩ := List.mem_map.1 h
      cases hl : hp c.Hi q.1 with
      | some y => rfl
      | none =>
        exfalso
        have none_of : ∀ (l : List (Nat × LO)), l.lookup q.1 = none → q.1 ∉ l.map (·.1) := by
          intro l hl hm
          induction l with
          | nil => simp at hm
          | cons p l ih =>
            obtain ⟨k, v⟩ := p
            simp only [List.lookup_cons] at hl
            split at hl
            · cases hl
            · rename_i hk
              simp at hk
              simp only [List.map_cons, List.mem_cons] at hm
              rcases hm with hm | hm
              · exact hk hm
              · exact ih hl hm
        exact none_of _ hl h
    · exact .inr h
  · cases hd : c.d <;> simp [Act.put, hr.size]
  · intro s e hs
    simp only [Ct.app, putE] at hs
    split at hs
    · rename_i hd
      cases hs
      have hlt : s < a.tmps.size := by rw [hr.size]; exact hN s hd
      simp only [Act.put, hd, Array.getD_eq_getD_getElem?, Array.getElem?_setIfInBounds_self_of_lt hlt, Option.getD_some]
      exact hv
    · rename_i hd
      have := (hr.env s e hs).mono t.le t.grow.ext
      cases hc : c.d with
      | none => simpa [Act.put] using this
      | some d =>
        have hne : d ≠ s := fun h => hd (by rw [hc, h])
        simpa [Act.put, Array.getD_eq_getD_getElem?, Array.getElem?_setIfInBounds_ne hne] using this
  · have : D.map (mkd cx') = D.map (mkd cx) := List.map_congr_left (fun o ho => by simp only [mkd]; rw [(t.le o (hr.dA o ho)).2])
    rw [this]
    cases hd : c.d <;> simp [Act.put, hr.df]

theorem Tr.idle {md : Nat → Prop} {n0 : Nat} {H : Hp} {cx : Cx} {w : World} (h : HOk md n0 cx H w) : Tr cx w (hp []) cx w (hp []) (· ∈ ([] : List Nat)) :=
  ⟨CxLe.refl _, fun o => by simp, Grow.refl _ _ _, ⟨fun o x hx => by simp at hx, fun o x b hx => by simp at hx, fun o o' x x' b _ hx => by simp at hx, h.lim⟩, fun _ _ _ => rfl⟩

theorem CtOk.of_op {i : Nat} {o : Oper} {g : Bool} {es : List Ent} {out : LV} {rd Hi Ho : List (Nat × LO)} {new : List Nat} {gn : List (Nat × Ent)} {E : En}
    (ho : all[i]? = some o) (hN : ∀ (j d : Nat), (all[j]?).bind (fun (x : Oper) => x.dst) = some d → d < N) (hg : GuardOk E all o.guard g gn)
    (hop : g = true → OpC P r o (es.map entLV) rd Hi out Ho new) (hargs : Opnds E o.op.operands.toList es)
    (heff : g = true ∨ (Hi = [] ∧ Ho = [] ∧ new = [])) :
    CtOk P r N D B all i ⟨gn ++ needOf o.op.operands.toList es, o.dst, (g, out), rd, Hi, Ho, new⟩ := by
  intro S cx a w K Q hpre hrel hK
  have hpre' := hpre
  obtain ⟨p1, p2, p3, p4⟩ := hpre
  have hg' : GuardOk S.E all o.guard g gn := hg.transfer (fun p hp => p1 p (List.mem_append_left _ hp))
  have ha' : Opnds S.E o.op.operands.toList es := hargs.transfer (fun p hp => p1 p (List.mem_append_right _ hp))
  have hw := hg'.wanted hrel hN
  have hd : ∀ d, o.dst = some d → d < N := fun d h => hN i d (by rw [ho]; exact h)
  unfold wpOpIn
  simp only [ho, hw]
  cases hgv : g with
  | true =>
    subst hgv
    simp only [if_true]
    obtain ⟨hdom, hc⟩ := hop rfl
    refine hc _ _ cx S.H a w K Q hrel.heap (Amb.grow B.amb hrel.grow) p2 p3 (fun i hi => by rw [hrel.hA]; exact p4 i hi) (ha'.vs hrel) (fun cx' w' v t hv => ?_)
    exact hK _ _ _ (Rel.step hrel hpre' hd t hdom ⟨fun _ => hv, fun h => (by cases h)⟩)
  | false =>
    subst hgv
    simp only [Bool.false_eq_true, if_false]
    refine ⟨fun _ _ => trivial, ?_⟩
    rcases heff with h | ⟨rfl, rfl, rfl⟩
    · cases h
    · exact hK cx _ w (Rel.step hrel hpre' hd (Tr.idle hrel.heap) (by simp) ⟨fun h => (by cases h), fun _ => rfl⟩)

end

/-! ### regions, an operation after the other -/

/-- what every operation of a region must meet, asked once for the region -/
structure RegOk (N : Nat) (all : Array Oper) : Prop where
  dst : ∀ (j d : Nat), (all[j]?).bind (fun (x : Oper) => x.dst) = some d → d < N

def dstB (N : Nat) (all : Array Oper) : Bool := all.toList.all fun o => match o.dst with | some d => decide (d < N) | none => true
theorem RegOk.of {N : Nat} {all : Array Oper} (h : dstB N all = true) : RegOk N all := by
  refine ⟨fun j d hd => ?_⟩
  unfold dstB at h
  rw [List.all_eq_true] at h
  cases hj : all[j]? with
  | none => simp [hj] at hd
  | some o =>
    rw [hj] at hd
    simp only [Option.bind_some] at hd
    have := h o (by have := Array.mem_of_getElem? hj; simpa using this)
    rw [hd] at this
    simpa using this

structure Reg (P : Program) (r : Option Nat) (N : Nat) (D : List Nat) (B : Base) (all : Array Oper) (i : Nat) (ops : List Oper) (tr : List (Nat × Ct)) (S : St)
    (K : List (Nat × Ct) → St → Prop) : Prop where
  go : RegOk N all → ∃ l S', l.map (·.1) = List.range' i ops.length ∧ Chain P r N D B all l S S' ∧ K (tr.reverse ++ l) S'

/-- a state in lists: slots, objects, how many names of objects have been given -/
abbrev st (E : List (Nat × Ent)) (L : List (Nat × LO)) (n : Nat) : St := ⟨en E, hp L, fun o => o < n⟩

def putL (d : Option Nat) (e : Ent) (E : List (Nat × Ent)) : List (Nat × Ent) := match d with | some d => (d, e) :: E | none => E

theorem putE_putL (d : Option Nat) (e : Ent) (E : List (Nat × Ent)) : putE d e (en E) = en (putL d e E) := by
  funext t
  cases d with
  | none => simp [putE, putL]
  | some d =>
    simp only [putE, putL, en, List.lookup_cons, Option.some.injEq]
    by_cases h : t = d
    · subst h; simp
    · have h' : ¬ d = t := fun e => h e.symm
      have h2 : (t == d) = false := by simp [h]
      rw [if_neg h', h2]

section
variable {P : Program} {r : Option Nat} {N : Nat} {D : List Nat} {B : Base} {all : Array Oper} {K : List (Nat × Ct) → St → Prop}

theorem Reg.nil {i : Nat} {tr : List (Nat × Ct)} {S : St} (h : K tr.reverse S) : Reg P r N D B all i [] tr S K :=
  ⟨fun _ => ⟨[], S, by simp, .nil S, by simpa using h⟩⟩

theorem Reg.cons {i : Nat} {o : Oper} {ops : List Oper} {tr : List (Nat × Ct)} {S : St} {c : Ct} (hc : RegOk N all → CtOk P r N D B all i c) (hp : c.pre S)
    (h : Reg P r N D B all (i + 1) ops ((i, c) :: tr) (c.app S) K) : Reg P r N D B all i (o :: ops) tr S K := by
  refine ⟨fun hN => ?_⟩
  obtain ⟨l, S', h1, h2, h3⟩ := h.go hN
  refine ⟨(i, c) :: l, S', ?_, .cons (hc hN) hp h2, by simpa using h3⟩
  simp [h1, List.range'_succ]

/-- an operation that leaves the objects alone -/
theorem Reg.pure {i : Nat} {o : Oper} {ops : List Oper} {tr : List (Nat × Ct)} {E : List (Nat × Ent)} {L : List (Nat × LO)} {n : Nat} {g : Bool} {es : List Ent} {out : LV} {rd : List (Nat × LO)} {gn : List (Nat × Ent)}
    (ho : all[i]? = some o) (hg : GuardOk (en E) all o.guard g gn) (hargs : Opnds (en E) o.op.operands.toList es) 
    (hrd : ∀ k x, hp rd k = some x → hp L k = some x) (hop : g = true → OpC P r o (es.map entLV) rd [] out [] [])
    (h : Reg P r N D B all (i + 1) ops ((i, ⟨gn ++ needOf o.op.operands.toList es, o.dst, (g, out), rd, [], [], []⟩) :: tr) (st (putL o.dst (g, out) E) L n) K) :
    Reg P r N D B all i (o :: ops) tr (st E L n) K := by
  refine Reg.cons (fun hN => CtOk.of_op ho hN.dst hg hop hargs (.inr ⟨rfl, rfl, rfl⟩)) ⟨fun p hp => ?_, hrd, fun o x hx => by simp at hx, fun i hi => by simp at hi⟩ ?_
  · rcases List.mem_append.1 hp with hp | hp
    · exact hg.need p hp
    · exact hargs.need p hp
  · have : (Ct.app ⟨gn ++ needOf o.op.operands.toList es, o.dst, (g, out), rd, [], [], []⟩ (st E L n)) = st (putL o.dst (g, out) E) L n := by
      simp only [Ct.app, putE_putL]
      congr 1
      funext o; simp
    rw [this]; exact h

/-- an operation that takes the objects of Hi and leaves those of Ho, 'new' among them -/
def updL (L Hi Ho : List (Nat × LO)) : List (Nat × LO) := Ho ++ L.filter (fun p => !((Hi.map (·.1)).contains p.1))

theorem lookup_append' {l l' : List (Nat × LO)} {o : Nat} : (l ++ l').lookup o = match l.lookup o with | some x => some x | none => l'.lookup o := by
  induction l with
  | nil => simp
  | cons p l ih =>
    obtain ⟨k, v⟩ := p
    simp only [List.cons_append, List.lookup_cons]
    split
    · rfl
    · exact ih

theorem lookup_filter {l : List (Nat × LO)} {o : Nat} (q : Nat → Bool) : (l.filter (fun p => q p.1)).lookup o = if q o then l.lookup o else none := by
  induction l with
  | nil => simp
  | cons p l ih =>
    obtain ⟨k, v⟩ := p
    simp only [List.filter_cons]
    cases hk : q k with
    | true =>
      simp only [if_true, List.lookup_cons]
      cases he : (o == k) with
      | true => have he' : o = k := by simpa using he
                subst he'; simp [hk]
      | false => exact ih
    | false =>
      simp only [Bool.false_eq_true, if_false, List.lookup_cons]
      cases he : (o == k) with
      | true => have he' : o = k := by simpa using he
                subst he'; rw [ih]; simp [hk]
      | false => exact ih

theorem upd_updL (L Hi Ho : List (Nat × LO)) : (hp L).upd (hp Hi) (hp Ho) = hp (updL L Hi Ho) := by
  funext o
  simp only [Hp.upd, updL, hp, lookup_append']
  cases h1 : Ho.lookup o with
  | some x => rfl
  | none =>
    simp only []
    rw [lookup_filter (fun k => !((Hi.map (·.1)).contains k))]
    cases h2 : Hi.lookup o with
    | some y =>
      have := lookup_mem h2
      simp [this]
    | none =>
      have : o ∉ Hi.map (·.1) := by
        intro hm
        induction Hi with
        | nil => simp at hm
        | cons p l ih =>
          obtain ⟨k, v⟩ := p
          simp only [List.lookup_cons] at h2
          split at h2
          · cases h2
          · rename_i hk
            simp at hk
            simp only [List.map_cons, List.mem_cons] at hm
            rcases hm with hm | hm
            · exact hk hm
            · exact ih h2 hm
      simp [this]

theorem Reg.gen {i : Nat} {o : Oper} {ops : List Oper} {tr : List (Nat × Ct)} {E : List (Nat × Ent)} {L : List (Nat × LO)} {n m : Nat} {es : List Ent} {out : LV} {rd Hi Ho : List (Nat × LO)} {gn : List (Nat × Ent)}
    (ho : all[i]? = some o) (hg : GuardOk (en E) all o.guard true gn) (hargs : Opnds (en E) o.op.operands.toList es) 
    (hrd : ∀ k x, hp rd k = some x → hp L k = some x) (hHi : ∀ k x, hp Hi k = some x → hp L k = some x) (hop : OpC P r o (es.map entLV) rd Hi out Ho (List.range' n m))
    (h : Reg P r N D B all (i + 1) ops ((i, ⟨gn ++ needOf o.op.operands.toList es, o.dst, (true, out), rd, Hi, Ho, List.range' n m⟩) :: tr) (st (putL o.dst (true, out) E) (updL L Hi Ho) (n + m)) K) :
    Reg P r N D B all i (o :: ops) tr (st E L n) K := by
  refine Reg.cons (fun hN => CtOk.of_op ho hN.dst hg (fun _ => hop) hargs (.inl rfl)) ⟨fun p hp => ?_, hrd, hHi, fun i hi => ?_⟩ ?_
  · rcases List.mem_append.1 hp with hp | hp
    · exact hg.need p hp
    · exact hargs.need p hp
  · simp only [List.mem_range'_1] at hi; simp only []; omega
  · have : (Ct.app ⟨gn ++ needOf o.op.operands.toList es, o.dst, (true, out), rd, Hi, Ho, List.range' n m⟩ (st E L n)) = st (putL o.dst (true, out) E) (updL L Hi Ho) (n + m) := by
      simp only [Ct.app, putE_putL, upd_updL]
      congr 1
      funext o
      simp only [List.mem_range'_1, eq_iff_iff]
      omega
    rw [this]; exact h

end

/-! ### the code -/

structure LGo (P : Program) (r : Option Nat) (N : Nat) (D : List Nat) (B : Base) (Ψ : Exit → Act → World → Prop) (todo : List Item) (S : St) : Prop where
  go : ∀ (cx : Cx) (a : Act) (w : World), Rel B N D S cx a w → ∀ (b : Frame) (k : List Item) (cs : List Frame), b.roundOf = r →
    ∃ e a' w', Ψ e a' w' ∧ ArrivesIn (Machine.fenced P (FW r)) P (lone (b.atR a (todo ++ k)) cs w) b k cs e a' w'

section
variable {P : Program} {r : Option Nat} {N : Nat} {D : List Nat} {B : Base} {Ψ : Exit → Act → World → Prop} {todo : List Item} {S : St}

theorem LGo.step {todo' : List Item} (hs : ∀ (b : Frame) (a : Act) (k : List Item) (cs : List Frame) (w : World), step P (lone (b.atR a (todo ++ k)) cs w) = .next (lone (b.atR a (todo' ++ k)) cs w))
    (h : LGo P r N D B Ψ todo' S) : LGo P r N D B Ψ todo S := by
  refine ⟨fun cx a w hr b k cs hb => ?_⟩
  obtain ⟨e, a', w', hq, harr⟩ := h.go cx a w hr b k cs hb
  exact ⟨e, a', w', hq, .of_steps (.one (fenced_FW P r _) (hs b a k cs w)) harr⟩

theorem LGo.seq {x y : Code} (h : LGo P r N D B Ψ (.code x :: .code y :: todo) S) : LGo P r N D B Ψ (.code (.seq x y) :: todo) S := LGo.step (fun _ _ _ _ _ => stepR_seq) h
theorem LGo.skip (h : LGo P r N D B Ψ todo S) : LGo P r N D B Ψ (.code .skip :: todo) S := LGo.step (fun _ _ _ _ _ => stepR_skip) h
theorem LGo.label {l : Nat} (h : LGo P r N D B Ψ todo S) : LGo P r N D B Ψ (.code (.label l) :: todo) S := LGo.step (fun _ _ _ _ _ => stepR_label) h
theorem LGo.inBlock {i : Nat} (h : LGo P r N D B Ψ todo S) : LGo P r N D B Ψ (.inBlock i :: todo) S := LGo.step (fun _ _ _ _ _ => stepR_inBlock) h
theorem LGo.block {i : Nat} {c : Code} (h : LGo P r N D B Ψ (.code c :: .inBlock i :: todo) S) : LGo P r N D B Ψ (.code (.block i c) :: todo) S := LGo.step (fun _ _ _ _ _ => stepR_block) h
theorem LGo.loop {c : Code} (h : LGo P r N D B Ψ (.code c :: .inLoop c :: todo) S) : LGo P r N D B Ψ (.code (.loop c) :: todo) S := LGo.step (fun _ _ _ _ _ => stepR_loop) h
theorem LGo.inLoop {c : Code} (h : LGo P r N D B Ψ (.code c :: .inLoop c :: todo) S) : LGo P r N D B Ψ (.inLoop c :: todo) S := LGo.step (fun _ _ _ _ _ => stepR_inLoop) h

theorem exitTo_append {id : Nat} : ∀ {l k l' : List Item}, exitTo id l = some l' → exitTo id (l ++ k) = some (l' ++ k)
  | [], k, l', h => by simp [exitTo] at h
  | x :: l, k, l', h => by
    cases x with
    | inBlock i =>
      simp only [exitTo, List.cons_append] at h ⊢
      split at h
      · rename_i hh; cases h; simp [hh]
      · rename_i hh; simp only [hh]; exact exitTo_append h
    | _ => simp only [exitTo, List.cons_append] at h ⊢; exact exitTo_append h
theorem exitTo_append_none {id : Nat} : ∀ {l k : List Item}, exitTo id l = none → exitTo id (l ++ k) = exitTo id k
  | [], k, h => rfl
  | x :: l, k, h => by
    cases x with
    | inBlock i =>
      simp only [exitTo, List.cons_append] at h ⊢
      split at h
      · cases h
      · rename_i hh; simp only [hh]; exact exitTo_append_none h
    | _ => simp only [exitTo, List.cons_append] at h ⊢; exact exitTo_append_none h
theorem gotoIn_append {id : Nat} : ∀ {l k l' : List Item}, gotoIn id l = some l' → gotoIn id (l ++ k) = some (l' ++ k)
  | [], k, l', h => by simp [gotoIn] at h
  | x :: l, k, l', h => by
    cases x with
    | inScope i =>
      simp only [gotoIn, List.cons_append] at h ⊢
      split at h
      · rename_i hh; cases h; simp
      · exact gotoIn_append h
    | _ => simp only [gotoIn, List.cons_append] at h ⊢; exact gotoIn_append h

theorem LGo.exit {id : Nat} {k' : List Item} (hk : exitTo id todo = some k') (h : LGo P r N D B Ψ k' S) : LGo P r N D B Ψ (.code (.exit id) :: todo) S :=
  LGo.step (fun _ _ _ _ _ => stepR_exit (exitTo_append hk)) h
theorem LGo.goto {l : Nat} {k' : List Item} (hk : gotoIn l todo = some k') (h : LGo P r N D B Ψ k' S) : LGo P r N D B Ψ (.code (.goto l) :: todo) S :=
  LGo.step (fun _ _ _ _ _ => stepR_goto (gotoIn_append hk)) h
theorem LGo.exitOut {id : Nat} (hk : exitTo id todo = none) (h : ∀ cx a w, Rel B N D S cx a w → Ψ (.exit id) a w) : LGo P r N D B Ψ (.code (.exit id) :: todo) S := by
  refine ⟨fun cx a w hr b k cs hb => ?_⟩
  refine ⟨.exit id, a, w, h _ _ _ hr, fun k' hk' => .one (fenced_FW P r _) (stepR_exit ?_), fun _ hn => ⟨todo ++ k, ?_, .refl _⟩⟩
  · exact (exitTo_append_none hk).trans hk'
  · exact (exitTo_append_none hk).trans hn
theorem LGo.ret (h : ∀ cx a w, Rel B N D S cx a w → Ψ .ret a w) : LGo P r N D B Ψ (.code .ret :: todo) S := by
  refine ⟨fun cx a w hr b k cs hb => ?_⟩
  exact ⟨.ret, a, w, h _ _ _ hr, fun hn => ⟨_, .one (fenced_FW P r _) (stepR_ret hn)⟩, fun _ => ⟨todo ++ k, .refl _⟩⟩
theorem LGo.done (h : ∀ cx a w, Rel B N D S cx a w → Ψ .normal a w) : LGo P r N D B Ψ [] S := by
  refine ⟨fun cx a w hr b k cs hb => ?_⟩
  exact ⟨.normal, a, w, h _ _ _ hr, .refl _⟩

theorem LGo.scope {c : Code} (h : LGo P r N D B Ψ (.code c :: .inScope c :: todo) S) : LGo P r N D B Ψ (.code (.scope c) :: todo) S :=
  LGo.step (fun b a k cs w => step_lone_go (by simp [stepG, stepG.exec, Frame.atR])) h
theorem LGo.inScope {c : Code} (h : LGo P r N D B Ψ todo S) : LGo P r N D B Ψ (.inScope c :: todo) S :=
  LGo.step (fun b a k cs w => step_lone_go (by simp [stepG, stepG.exec, Frame.atR])) h

theorem LGo.cond {c : Operand} {x y : Code} {t : Bool} (hc : lvOf S.E c = some (true, .sv (.val (.bool t)))) (ht : t = true → LGo P r N D B Ψ (.code x :: todo) S)
    (hf : t = false → LGo P r N D B Ψ (.code y :: todo) S) : LGo P r N D B Ψ (.code (.cond c x y) :: todo) S := by
  refine ⟨fun cx a w hr b k cs hb => ?_⟩
  have he : a.eval c = .bool t := by have := eval_of_lvOf hr hc rfl; simpa [V, VS] using this
  cases t with
  | true =>
    obtain ⟨e, a', w', hq, harr⟩ := (ht rfl).go cx a w hr b k cs hb
    exact ⟨e, a', w', hq, .of_steps (.one (fenced_FW P r _) (stepR_cond he)) harr⟩
  | false =>
    obtain ⟨e, a', w', hq, harr⟩ := (hf rfl).go cx a w hr b k cs hb
    exact ⟨e, a', w', hq, .of_steps (.one (fenced_FW P r _) (stepR_cond he)) harr⟩

theorem LGo.region {id : Nat} {ops : List Oper} {draw : Bool} (hN : dstB N ops.toArray = true)
    (h : Reg P r N D B ops.toArray 0 ops [] S (fun tr S' => (draw = true → P.follows .mixedOrders = true ∧ edgesOk ops.toArray = true ∧ pairsOk ops.toArray tr = true) ∧ LGo P r N D B Ψ todo S')) :
    LGo P r N D B Ψ (.code (.region id ops.toArray draw) :: todo) S := by
  obtain ⟨all, hall⟩ : ∃ all : Array Oper, all = ops.toArray := ⟨_, rfl⟩
  have hops : ops = all.toList := by rw [hall]
  rw [← hall] at h hN ⊢
  rw [hops] at h
  clear hall hops ops
  refine ⟨fun cx a w hr b k cs hb => ?_⟩
  obtain ⟨l, S', h1, h2, h3, h4⟩ := h.go (RegOk.of hN)
  simp only [List.reverse_nil, List.nil_append] at h3
  have hrange : List.range all.size = l.map (·.1) := by rw [h1, List.range_eq_range']; simp
  have key : (Code.region id all draw).wpIn (FW r) 0 P (fun e a w => e = .normal ∧ ∃ cx, Rel B N D S' cx a w) a w := by
    cases draw with
    | false =>
      refine wpIn_region ?_
      rw [hrange]
      exact region_text_order (fun cx a w hr => ⟨rfl, cx, hr⟩) l S cx a w h2 hr
    | true =>
      obtain ⟨k1, k2, k3⟩ := h3 rfl
      refine wpIn_region_any k1 ?_
      have hl : l.length = all.size := by have := congrArg List.length h1; simpa using this
      have hr' : Rel B N D S cx a { w with drawn := w.drawn + 1 } :=
        ⟨⟨hr.grow.os, hr.grow.tape, hr.grow.output, hr.grow.size, hr.grow.same, hr.grow.prs, hr.grow.ext⟩, hr.le, hr.hA,
          ⟨fun o x hx => ⟨(hr.heap.ok o x hx).1, ObjOk.mono (w := w) (w' := { w with drawn := w.drawn + 1 }) (CxLe.refl _) (fun b off hb => ⟨hb, rfl⟩) (hr.heap.ok o x hx).1 (fun _ _ _ => rfl) rfl (hr.heap.ok o x hx).2⟩, hr.heap.own, hr.heap.inj, hr.heap.lim⟩, hr.size,
          fun t e he => EntOk.mono (w := w) (w' := { w with drawn := w.drawn + 1 }) (h := hr.env t e he) (CxLe.refl _) (fun b off hb => ⟨hb, rfl⟩), hr.df, hr.dA⟩
      refine region_any_order k2 (fun cx a w hr => ⟨rfl, cx, hr⟩) all.size l _ S cx a _ (by omega) (by simp) ?_ ?_ ?_ ?_ k3 h2 hr'
      · rw [← hrange]; exact List.pairwise_lt_range
      · intro i hi
        rw [← hrange]
        simp [Array.getD_eq_getD_getElem?, hi]
      · rw [← hrange]; simp
      · intro k hk
        simp only [Array.getD_eq_getD_getElem?, Array.getElem?_replicate] at hk
        split at hk <;> simp at hk
  obtain ⟨e, a', w', ⟨rfl, cx', hr'⟩, harr⟩ := key b (todo ++ k) cs hb trivial (by intro d hd; simp [FW, Fence.wide] at hd)
  obtain ⟨e2, a2, w2, hq2, harr2⟩ := h4.go cx' a' w' hr' b k cs hb
  exact ⟨e2, a2, w2, hq2, .of_steps harr harr2⟩

/-- another state that says no more -/
theorem LGo.conv {S' : St} (hc : ∀ cx a w, Rel B N D S cx a w → ∃ cx', Rel B N D S' cx' a w) (h : LGo P r N D B Ψ todo S') : LGo P r N D B Ψ todo S := by
  refine ⟨fun cx a w hr b k cs hb => ?_⟩
  obtain ⟨cx', hr'⟩ := hc cx a w hr
  exact h.go cx' a w hr' b k cs hb

end

end Go.Proofs.YtnamkhifmankmaaDoor

/- Contracts of functions on logical states: what a call takes and leaves; how a contract is proved by the walk, and how it is used at a call. -/
namespace Go.Proofs.YtnamkhifmankmaaDoor

/-! ### renaming objects -/

mutual
def LV.mapI (σ : Nat → Nat) : LV → LV
  | .sv s => .sv s
  | .agg cs => .agg (LV.mapIs σ cs)
  | .tup cs => .tup (LV.mapIs σ cs)
  | .ptr o off => .ptr (σ o) off
  | .ref o => .ref (σ o)
  | .fn f p q => .fn f (LV.mapIs σ p) (LV.mapIs σ q)
  | .yld o => .yld (σ o)
  | .sub o off len cap => .sub (σ o) off len cap
  | .pv p => .pv p
def LV.mapIs (σ : Nat → Nat) : List LV → List LV
  | [] => []
  | c :: cs => LV.mapI σ c :: LV.mapIs σ cs
end
mutual
def LV.lt (m : Nat) : LV → Bool
  | .sv _ => true
  | .agg cs => LV.lts m cs
  | .tup cs => LV.lts m cs
  | .ptr o _ => decide (o < m)
  | .ref o => decide (o < m)
  | .fn _ p q => LV.lts m p && LV.lts m q
  | .yld o => decide (o < m)
  | .sub o _ _ _ => decide (o < m)
  | .pv _ => true
def LV.lts (m : Nat) : List LV → Bool
  | [] => true
  | c :: cs => LV.lt m c && LV.lts m cs
end

mutual
theorem V.ren {cx1 cx2 : Cx} {w : World} {σ : Nat → Nat} (hp : cx1.pr = cx2.pr) (h : ∀ o, cx1.A o → cx2.A (σ o) ∧ cx2.loc (σ o) = cx1.loc o) :
    ∀ (l : LV) (x : Value), V cx1 w l x → V cx2 w (l.mapI σ) x
  | .sv s, x, hv => by simp only [V, LV.mapI] at hv ⊢; rw [← hp]; exact hv
  | .agg cs, x, hv => by simp only [V, LV.mapI] at hv ⊢; obtain ⟨vs, h1, h2⟩ := hv; exact ⟨vs, h1, Vs.ren hp h cs vs h2⟩
  | .tup cs, x, hv => by simp only [V, LV.mapI] at hv ⊢; obtain ⟨vs, h1, h2⟩ := hv; exact ⟨vs, h1, Vs.ren hp h cs vs h2⟩
  | .ptr o off, x, hv => by
    simp only [V, LV.mapI] at hv ⊢
    obtain ⟨h1, b, h2, h3⟩ := hv
    exact ⟨(h o h1).1, b, by rw [(h o h1).2]; exact h2, h3⟩
  | .ref o, x, hv => by
    simp only [V, LV.mapI] at hv ⊢
    obtain ⟨h1, h2⟩ := hv
    exact ⟨(h o h1).1, by rw [(h o h1).2]; exact h2⟩
  | .fn f p q, x, hv => by
    simp only [V, LV.mapI] at hv ⊢
    obtain ⟨us, vs, h1, h2, h3⟩ := hv
    exact ⟨us, vs, h1, Vs.ren hp h p us h2, Vs.ren hp h q vs h3⟩
  | .yld o, x, hv => by
    simp only [V, LV.mapI] at hv ⊢
    obtain ⟨h1, b, h2, h3⟩ := hv
    exact ⟨(h o h1).1, b, by rw [(h o h1).2]; exact h2, h3⟩
  | .sub o off len cap, x, hv => by
    simp only [V, LV.mapI] at hv ⊢
    obtain ⟨h1, b, h2, h3⟩ := hv
    exact ⟨(h o h1).1, b, by rw [(h o h1).2]; exact h2, h3⟩
  | .pv p, x, hv => by simpa only [V, LV.mapI] using hv
theorem Vs.ren {cx1 cx2 : Cx} {w : World} {σ : Nat → Nat} (hp : cx1.pr = cx2.pr) (h : ∀ o, cx1.A o → cx2.A (σ o) ∧ cx2.loc (σ o) = cx1.loc o) :
    ∀ (l : List LV) (x : List Value), Vs cx1 w l x → Vs cx2 w (LV.mapIs σ l) x
  | [], x, hv => by simpa [Vs, LV.mapIs] using hv
  | c :: cs, x, hv => by
    simp only [Vs, LV.mapIs] at hv ⊢
    obtain ⟨y, r, h1, h2, h3⟩ := hv
    exact ⟨y, r, h1, V.ren hp h c y h2, Vs.ren hp h cs r h3⟩
end
mutual
theorem V.unren {cx1 cx2 : Cx} {w : World} {σ : Nat → Nat} {m : Nat} (hp : cx1.pr = cx2.pr) (h : ∀ o, o < m → cx1.A o ∧ cx1.loc o = cx2.loc (σ o)) :
    ∀ (l : LV) (x : Value), l.lt m = true → V cx2 w (l.mapI σ) x → V cx1 w l x
  | .sv s, x, _, hv => by simp only [V, LV.mapI] at hv ⊢; rw [hp]; exact hv
  | .agg cs, x, hl, hv => by simp only [V, LV.mapI] at hv ⊢; obtain ⟨vs, h1, h2⟩ := hv; exact ⟨vs, h1, Vs.unren hp h cs vs (by simpa [LV.lt] using hl) h2⟩
  | .tup cs, x, hl, hv => by simp only [V, LV.mapI] at hv ⊢; obtain ⟨vs, h1, h2⟩ := hv; exact ⟨vs, h1, Vs.unren hp h cs vs (by simpa [LV.lt] using hl) h2⟩
  | .ptr o off, x, hl, hv => by
    simp only [V, LV.mapI] at hv ⊢
    obtain ⟨_, b, h2, h3⟩ := hv
    have := h o (by simpa [LV.lt] using hl)
    exact ⟨this.1, b, by rw [this.2]; exact h2, h3⟩
  | .ref o, x, hl, hv => by
    simp only [V, LV.mapI] at hv ⊢
    have := h o (by simpa [LV.lt] using hl)
    exact ⟨this.1, by rw [this.2]; exact hv.2⟩
  | .fn f p q, x, hl, hv => by
    simp only [V, LV.mapI] at hv ⊢
    obtain ⟨us, vs, h1, h2, h3⟩ := hv
    simp only [LV.lt, Bool.and_eq_true] at hl
    exact ⟨us, vs, h1, Vs.unren hp h p us hl.1 h2, Vs.unren hp h q vs hl.2 h3⟩
  | .yld o, x, hl, hv => by
    simp only [V, LV.mapI] at hv ⊢
    obtain ⟨_, b, h2, h3⟩ := hv
    have := h o (by simpa [LV.lt] using hl)
    exact ⟨this.1, b, by rw [this.2]; exact h2, h3⟩
  | .sub o off len cap, x, hl, hv => by
    simp only [V, LV.mapI] at hv ⊢
    obtain ⟨_, b, h2, h3⟩ := hv
    have := h o (by simpa [LV.lt] using hl)
    exact ⟨this.1, b, by rw [this.2]; exact h2, h3⟩
  | .pv p, x, _, hv => by simpa only [V, LV.mapI] using hv
theorem Vs.unren {cx1 cx2 : Cx} {w : World} {σ : Nat → Nat} {m : Nat} (hp : cx1.pr = cx2.pr) (h : ∀ o, o < m → cx1.A o ∧ cx1.loc o = cx2.loc (σ o)) :
    ∀ (l : List LV) (x : List Value), LV.lts m l = true → Vs cx2 w (LV.mapIs σ l) x → Vs cx1 w l x
  | [], x, _, hv => by simpa [Vs, LV.mapIs] using hv
  | c :: cs, x, hl, hv => by
    simp only [Vs, LV.mapIs] at hv ⊢
    simp only [LV.lts, Bool.and_eq_true] at hl
    obtain ⟨y, r, h1, h2, h3⟩ := hv
    exact ⟨y, r, h1, V.unren hp h c y hl.1 h2, Vs.unren hp h cs r hl.2 h3⟩
end

theorem mapIs_append (σ : Nat → Nat) : ∀ (l l' : List LV), LV.mapIs σ (l ++ l') = LV.mapIs σ l ++ LV.mapIs σ l'
  | [], l' => by simp [LV.mapIs]
  | c :: cs, l' => by simp [LV.mapIs, mapIs_append σ cs l']
theorem lts_append (m : Nat) : ∀ (l l' : List LV), LV.lts m (l ++ l') = (LV.lts m l && LV.lts m l')
  | [], l' => by simp [LV.lts]
  | c :: cs, l' => by simp [LV.lts, lts_append m cs l', Bool.and_assoc]
theorem mapIs_flatten (σ : Nat → Nat) : ∀ (xs : List (List LV)), LV.mapIs σ xs.flatten = (xs.map (LV.mapIs σ)).flatten
  | [] => by simp [LV.mapIs]
  | x :: xs => by simp [mapIs_append, mapIs_flatten σ xs]
theorem lts_flatten (m : Nat) : ∀ (xs : List (List LV)), LV.lts m xs.flatten = xs.all (LV.lts m)
  | [] => by simp [LV.lts]
  | x :: xs => by simp [lts_append, lts_flatten m xs]
theorem mapIs_length (σ : Nat → Nat) : ∀ (l : List LV), (LV.mapIs σ l).length = l.length
  | [] => by simp [LV.mapIs]
  | c :: cs => by simp [LV.mapIs, mapIs_length σ cs]

def mapE (σ : Nat → Nat) (E : List (Nat × Bool × LV)) : List (Nat × Bool × LV) := E.map fun p => (p.1, p.2.1, p.2.2.mapI σ)
theorem mapE_lookup (σ : Nat → Nat) : ∀ {E : List (Nat × Bool × LV)} {t : Nat} {e : Bool × LV}, (mapE σ E).lookup t = some e → ∃ e0, E.lookup t = some e0 ∧ e = (e0.1, e0.2.mapI σ)
  | [], t, e, h => by simp [mapE] at h
  | (k, (g, x)) :: E, t, e, h => by
    simp only [mapE, List.map_cons, List.lookup_cons] at h ⊢
    split at h
    · rename_i hh; cases h; exact ⟨(g, x), rfl, rfl⟩
    · exact mapE_lookup σ h
theorem lookup_mapE (σ : Nat → Nat) : ∀ {E : List (Nat × Bool × LV)} {t : Nat} {e : Bool × LV}, E.lookup t = some e → (mapE σ E).lookup t = some (e.1, e.2.mapI σ)
  | [], t, e, h => by simp at h
  | (k, (g, x)) :: E, t, e, h => by
    simp only [mapE, List.map_cons, List.lookup_cons] at h ⊢
    split at h
    · cases h; rfl
    · exact lookup_mapE σ h
theorem lookup_mem' {α : Type} : ∀ {l : List (Nat × α)} {o : Nat} {x : α}, l.lookup o = some x → (o, x) ∈ l
  | [], o, x, h => by simp at h
  | (k, v) :: l, o, x, h => by
    simp only [List.lookup_cons] at h
    split at h
    · rename_i hh; simp at hh; subst hh; cases h; simp
    · exact List.mem_cons_of_mem _ (lookup_mem' h)

def LO.mapI (σ : Nat → Nat) : LO → LO
  | .box T cs => .box T (LV.mapIs σ cs)
  | .row T sz xs => .row T sz (xs.map (LV.mapIs σ))
  | .rs T sz ys => .rs T sz ys
  | .bx T cs k Te sz ys => .bx T (LV.mapIs σ cs) k Te sz ys
  | .raw x => .raw x
  | .loop fn N E ps a b st pd => .loop fn N (mapE σ E) ps a b st pd
def LO.lt (m : Nat) : LO → Bool
  | .box _ cs => LV.lts m cs
  | .row _ _ xs => xs.all (LV.lts m)
  | .rs _ _ _ => true
  | .bx _ cs _ _ _ _ => LV.lts m cs
  | .raw _ => true
  | .loop _ _ E _ _ _ _ _ => E.all fun p => p.2.2.lt m

theorem mapIs_sv (σ : Nat → Nat) : ∀ l : List SV, LV.mapIs σ (l.map LV.sv) = l.map LV.sv
  | [] => rfl
  | s :: l => by simp only [List.map_cons, LV.mapIs, LV.mapI, mapIs_sv σ l]
theorem lts_sv (m : Nat) : ∀ l : List SV, LV.lts m (l.map LV.sv) = true
  | [] => rfl
  | s :: l => by simp only [List.map_cons, LV.lts, LV.lt, lts_sv m l, Bool.and_self]

theorem mapIs_set (σ : Nat → Nat) : ∀ (cs : List LV) (k : Nat) (s : SV), LV.mapIs σ (cs.set k (.sv s)) = (LV.mapIs σ cs).set k (.sv s)
  | [], k, s => by simp [LV.mapIs]
  | c :: cs, 0, s => by simp [LV.mapIs, LV.mapI]
  | c :: cs, k + 1, s => by simp only [List.set_cons_succ, LV.mapIs, mapIs_set σ cs k s]
theorem lts_set (m : Nat) : ∀ (cs : List LV) (k : Nat) (s : SV), LV.lts m cs = true → LV.lts m (cs.set k (.sv s)) = true
  | [], k, s, _ => by simp [LV.lts]
  | c :: cs, 0, s, h => by simp only [LV.lts, Bool.and_eq_true] at h; simp [LV.lts, LV.lt, h.2]
  | c :: cs, k + 1, s, h => by simp only [LV.lts, Bool.and_eq_true] at h; simp [LV.lts, h.1, lts_set m cs k s h.2]
theorem mapI_isBx (σ : Nat → Nat) (x : LO) : (x.mapI σ).isBx = x.isBx := by cases x <;> rfl

theorem has_map {cx1 cx2 : Cx} {σ : Nat → Nat} {o : Nat} (hl : cx1.loc o = cx2.loc (σ o)) (hi : cx1.inn o = cx2.inn (σ o)) {x : LO} {b : Nat} (h : cx1.has o x b) : cx2.has (σ o) (x.mapI σ) b := by
  unfold Cx.has at h ⊢
  rw [mapI_isBx, ← hl, ← hi]; exact h

theorem ObjOk.ren {cx1 cx2 : Cx} {w : World} {σ : Nat → Nat} (hp : cx1.pr = cx2.pr) (h : ∀ o, cx1.A o → cx2.A (σ o) ∧ cx2.loc (σ o) = cx1.loc o)
    {o : Nat} {x : LO} (ho : cx1.A o) (hi : cx2.inn (σ o) = cx1.inn o) (hx : ObjOk cx1 w o x) : ObjOk cx2 w (σ o) (x.mapI σ) := by
  have hl := (h o ho).2
  cases x with
  | box T cs => obtain ⟨b, vs, h1, h2, h3⟩ := hx; exact ⟨b, vs, by rw [hl]; exact h1, h2, Vs.ren hp h _ _ h3⟩
  | row T sz xs =>
    obtain ⟨h1, vs, h2, h3, h4⟩ := hx
    refine ⟨fun e he => ?_, vs, ?_, ?_, h4⟩
    · obtain ⟨e', he', rfl⟩ := List.mem_map.1 he; rw [mapIs_length]; exact h1 e' he'
    · rw [hl, List.length_map]; exact h2
    · rw [← mapIs_flatten]; exact Vs.ren hp h _ _ h3
  | rs T sz ys =>
    obtain ⟨h1, vs, h2, h3, h4⟩ := hx
    exact ⟨h1, vs, by rw [hl]; exact h2, by have := Vs.ren hp h _ _ h3; rwa [mapIs_sv] at this, h4⟩
  | bx T cs k Te sz ys =>
    obtain ⟨b, vs, v, h1, h2, h3, h4, h5, h5', h5'', h6, us, h7, h8, h9⟩ := hx
    exact ⟨b, vs, v, by rw [hl]; exact h1, h2, by have := Vs.ren hp h _ _ h3; rwa [mapIs_set] at this, by rw [mapIs_length]; exact h4, by rw [hi]; exact h5, h5', h5'', h6, us, h7, by have := Vs.ren hp h _ _ h8; rwa [mapIs_sv] at this, h9⟩
  | raw x => obtain ⟨b, h1, h2⟩ := hx; exact ⟨b, by rw [hl]; exact h1, h2⟩
  | loop fn N E ps a b st pd =>
    obtain ⟨l, T, df, h1, h2, h3, h4⟩ := hx
    refine ⟨l, T, df, by rw [hl]; exact h1, h2, h3, fun t e he => ?_⟩
    obtain ⟨e0, g1, rfl⟩ := mapE_lookup σ he
    have := h4 t e0 g1
    exact ⟨fun hg => V.ren hp h _ _ (this.1 hg), this.2⟩

theorem ObjOk.unren {cx1 cx2 : Cx} {w : World} {σ : Nat → Nat} {m : Nat} (hp : cx1.pr = cx2.pr) (h : ∀ o, o < m → cx1.A o ∧ cx1.loc o = cx2.loc (σ o))
    {o : Nat} {x : LO} (ho : o < m) (hm : x.lt m = true) (hi : cx1.inn o = cx2.inn (σ o)) (hx : ObjOk cx2 w (σ o) (x.mapI σ)) : ObjOk cx1 w o x := by
  have hl := (h o ho).2
  cases x with
  | box T cs => obtain ⟨b, vs, h1, h2, h3⟩ := hx; exact ⟨b, vs, by rw [hl]; exact h1, h2, Vs.unren hp h _ _ hm h3⟩
  | row T sz xs =>
    obtain ⟨h1, vs, h2, h3, h4⟩ := hx
    refine ⟨fun e he => ?_, vs, ?_, ?_, h4⟩
    · have := h1 (LV.mapIs σ e) (List.mem_map.2 ⟨e, he, rfl⟩); rwa [mapIs_length] at this
    · rw [hl]; rw [List.length_map] at h2; exact h2
    · rw [← mapIs_flatten] at h3; exact Vs.unren hp h _ _ (by rw [lts_flatten]; exact hm) h3
  | rs T sz ys =>
    obtain ⟨h1, vs, h2, h3, h4⟩ := hx
    exact ⟨h1, vs, by rw [hl]; exact h2, Vs.unren hp h _ _ (lts_sv _ _) (by rw [mapIs_sv]; exact h3), h4⟩
  | bx T cs k Te sz ys =>
    obtain ⟨b, vs, v, h1, h2, h3, h4, h5, h5', h5'', h6, us, h7, h8, h9⟩ := hx
    exact ⟨b, vs, v, by rw [hl]; exact h1, h2, Vs.unren hp h _ _ (lts_set _ _ _ _ hm) (by rw [mapIs_set]; exact h3), by rw [mapIs_length] at h4; exact h4, by rw [hi]; exact h5, h5', h5'', h6, us, h7, Vs.unren hp h _ _ (lts_sv _ _) (by rw [mapIs_sv]; exact h8), h9⟩
  | raw x => obtain ⟨b, h1, h2⟩ := hx; exact ⟨b, by rw [hl]; exact h1, h2⟩
  | loop fn N E ps a b st pd =>
    obtain ⟨l, T, df, h1, h2, h3, h4⟩ := hx
    refine ⟨l, T, df, by rw [hl]; exact h1, h2, h3, fun t e he => ?_⟩
    have := h4 t _ (lookup_mapE σ he)
    exact ⟨fun hg => V.unren hp h _ _ (List.all_eq_true.1 hm (t, e) (lookup_mem' he)) (this.1 hg), this.2⟩

/-! ### the contract of a function -/

/-- a call of f enters f's own text -/
def Entr (P : Program) (f : FuncId) : Prop := ∀ (args : Array Value) (w : World), (callFunc f args).run P w = .ok (.enter f args) w

structure LC (P : Program) (f : FuncId) (m : Nat) (lvs : List LV) (Hi : List (Nat × LO)) (out : LV) (Ho : List (Nat × LO)) (k : Nat) : Prop where
  entr : Entr P f
  args : LV.lts m lvs = true
  rng : Hi.map (·.1) = List.range m
  hlt : ∀ p ∈ Hi, p.2.lt m = true
  hos : ∀ p ∈ Ho, p.1 ∈ Hi.map (·.1) ∨ (m ≤ p.1 ∧ p.1 < m + k)
  go : ∀ (cx : Cx) (w : World) (vs : List Value), (∀ o, cx.A o ↔ o < m) → HOk (fun _ => True) 0 cx (hp Hi) w → Amb cx.pr w → Vs cx w lvs vs →
    Calls P f vs.toArray w fun e w' => ∃ v cx', e = .returned v ∧ Tr cx w (hp Hi) cx' w' (hp Ho) (fun o => m ≤ o ∧ o < m + k) ∧ V cx' w' out v

theorem LC.his {P : Program} {f : FuncId} {m : Nat} {lvs : List LV} {Hi : List (Nat × LO)} {out : LV} {Ho : List (Nat × LO)} {k : Nat} (h : LC P f m lvs Hi out Ho k) :
    ∀ p ∈ Hi, p.1 < m ∧ p.2.lt m = true := fun p hp' => ⟨by
      have : p.1 ∈ Hi.map (·.1) := List.mem_map.2 ⟨p, hp', rfl⟩
      rw [h.rng] at this; simpa using this, h.hlt p hp'⟩

theorem lookup_of_nodup {α : Type} : ∀ {l : List (Nat × α)} {k : Nat} {v : α}, (l.map (·.1)).Nodup → (k, v) ∈ l → l.lookup k = some v
  | [], k, v, _, h => by simp at h
  | (a, b) :: l, k, v, hn, h => by
    simp only [List.map_cons, List.nodup_cons] at hn
    simp only [List.lookup_cons]
    rcases List.mem_cons.1 h with h' | h'
    · cases h'; simp
    · have hne : (k == a) = false := by
        simp only [beq_eq_false_iff_ne]
        rintro rfl
        exact hn.1 (List.mem_map.2 ⟨(k, v), h', rfl⟩)
      rw [hne]; exact lookup_of_nodup hn.2 h'

def FnPost (P : Program) (fn : Func) (B : Base) (m : Nat) (out : LV) (Hi Ho : List (Nat × LO)) (k : Nat) : Exit → Act → World → Prop := fun e a w =>
  (e = .normal ∨ e = .ret) ∧ LeavesInM Fence.wide 0 P fn a.tmps (fun e' w' => ∃ v cx', e' = .returned v ∧ ((∀ o, B.cx.A o → hp Hi o ≠ none) → Tr B.cx B.w (hp Hi) cx' w' (hp Ho) (fun o => m ≤ o ∧ o < m + k)) ∧ V cx' w' out v) a.defers .returning w

def zipE : Nat → List LV → List (Nat × Ent)
  | _, [] => []
  | i, l :: ls => (i, (true, l)) :: zipE (i + 1) ls

theorem zipE_lookup : ∀ (ls : List LV) (i t : Nat) (e : Ent), (zipE i ls).lookup t = some e → ∃ l, i ≤ t ∧ ls[t - i]? = some l ∧ e = (true, l)
  | [], i, t, e, h => by simp [zipE] at h
  | l :: ls, i, t, e, h => by
    simp only [zipE, List.lookup_cons] at h
    split at h
    · rename_i hh; simp at hh; subst hh; cases h; exact ⟨l, Nat.le_refl _, by simp, rfl⟩
    · rename_i hh
      obtain ⟨l', h1, h2, h3⟩ := zipE_lookup ls (i + 1) t e h
      refine ⟨l', by omega, ?_, h3⟩
      rw [show t - i = (t - (i + 1)) + 1 from by omega]
      simpa using h2

theorem Rel.mk0 {N : Nat} {lvs : List LV} {Hi : List (Nat × LO)} {m : Nat} {cx : Cx} {w : World} {vs : List Value} (hA : ∀ o, cx.A o ↔ o < m)
    (hh : HOk (fun _ => True) 0 cx (hp Hi) w) (ham : Amb cx.pr w) (hv : Vs cx w lvs vs) (hN : lvs.length ≤ N) :
    Rel ⟨cx, w, blks cx (hp Hi), ham, fun b ⟨o, x, hx, hb⟩ => (hh.own o x b hx hb).1⟩ N [] (st (zipE 0 lvs) Hi m) cx { tmps := vs.toArray ++ Array.replicate (N - vs.toArray.size) undef, defers := [] } w := by
  have hlen := hv.length
  refine ⟨Grow.refl _ _ _, CxLe.refl _, funext fun o => propext (hA o), ⟨hh.ok, fun o x b hx hb => ?_, hh.inj, hh.lim⟩, ?_, ?_, rfl, by simp⟩
  · obtain ⟨h1, h2, _⟩ := hh.own o x b hx hb
    exact ⟨h1, h2, .inr ⟨o, x, hx, hb⟩⟩
  · simp; omega
  · intro t e he
    obtain ⟨l, _, h2, rfl⟩ := zipE_lookup lvs 0 t e he
    simp only [Nat.sub_zero] at h2
    obtain ⟨v, hv1, hv2⟩ := hv.get h2
    refine ⟨fun _ => ?_, fun h => by cases h⟩
    have : (vs.toArray ++ Array.replicate (N - vs.toArray.size) undef).getD t undef = v := by
      have hlt : t < vs.length := (List.getElem?_eq_some_iff.1 hv1).1
      rw [Array.getD_eq_getD_getElem?, Array.getElem?_append_left (by simpa using hlt)]
      simp [hv1]
    rw [this]; exact hv2

theorem hp_range {Hi : List (Nat × LO)} {m o : Nat} (rng : Hi.map (·.1) = List.range m) (ho : o < m) : hp Hi o ≠ none := by
  intro hn
  have hm : o ∈ Hi.map (·.1) := by rw [rng]; simpa using ho
  clear rng
  induction Hi with
  | nil => simp at hm
  | cons p l ih =>
    obtain ⟨k, v⟩ := p
    simp only [hp, List.lookup_cons] at hn
    split at hn
    · cases hn
    · rename_i hk
      simp at hk
      simp only [List.map_cons, List.mem_cons] at hm
      rcases hm with hm | hm
      · exact hk hm
      · exact ih hn hm

theorem LC.of_go {P : Program} {f : FuncId} {fn : Func} {c : Code} {m k : Nat} {lvs : List LV} {Hi Ho : List (Nat × LO)} {out : LV}
    (hf : P.funcs[f]? = some fn) (hb : fn.body = some c) (hname : (fn.name == "runtime.NumGoroutine") = false) (hN : lvs.length ≤ fn.ntmps)
    (args : LV.lts m lvs = true) (rng : Hi.map (·.1) = List.range m) (hlt : ∀ p ∈ Hi, p.2.lt m = true) (hos : ∀ p ∈ Ho, p.1 ∈ Hi.map (·.1) ∨ (m ≤ p.1 ∧ p.1 < m + k))
    (h : ∀ B : Base, (∀ o, B.cx.A o ↔ o < m) → B.md = blks B.cx (hp Hi) → LGo P none fn.ntmps [] B (FnPost P fn B m out Hi Ho k) [.code c] (st (zipE 0 lvs) Hi m)) :
    LC P f m lvs Hi out Ho k := by
  refine ⟨fun as w => ?_, args, rng, hlt, hos, fun cx w vs hA hh ham hv => ?_⟩
  · simp only [callFunc, Sem.run_bind, Sem.run_pure, Result.andThen_ok]
    have hn' : ¬ fn.name = "runtime.NumGoroutine" := by simpa using hname
    simp [program, Sem.run, hf, hn', hb]
  · refine (callsIn_wide (n := 0)).1 (callsIn_of_wp_marks hf hb trivial ?_ rfl)
    have hrel := Rel.mk0 (N := fn.ntmps) hA hh ham hv hN
    intro b k' cs hro _ _
    obtain ⟨e, a', w', ⟨he, hl⟩, harr⟩ := (h ⟨cx, w, blks cx (hp Hi), ham, fun b ⟨o, x, hx, hb⟩ => (hh.own o x b hx hb).1⟩ hA rfl).go cx _ w hrel b k' cs hro
    refine ⟨e, a', w', ?_, harr⟩
    have hne : ∀ o, cx.A o → hp Hi o ≠ none := fun o ho => hp_range rng ((hA o).1 ho)
    simp only [forall_prop_of_true hne] at hl
    rcases he with rfl | rfl
    · exact hl
    · exact hl

/-- the end of a function: what it hands back, and the objects that it leaves -/
theorem FnPost.of {P : Program} {fn : Func} {B : Base} {m k N : Nat} {out : LV} {Hi Ho : List (Nat × LO)} {E : List (Nat × Ent)} {L : List (Nat × LO)}
    (hA : ∀ o, B.cx.A o ↔ o < m) (hmd : B.md = blks B.cx (hp Hi)) (hHo : ∀ o x, hp Ho o = some x → hp L o = some x) {e : Exit} (he : e = .normal ∨ e = .ret)
    {cx : Cx} {a : Act} {w : World} (hr : Rel B N [] (st E L (m + k)) cx a w) {v : Value} (hv : (results fn a.tmps).run P w = .ok v w) (hvo : V cx w out v) :
    FnPost P fn B m out Hi Ho k e a w := by
  refine ⟨he, ?_⟩
  rw [show a.defers = [] from hr.df]
  refine ⟨v, hv, v, cx, rfl, fun hne => ⟨hr.le, fun o => ?_, by rw [← hmd]; exact hr.grow, ⟨fun o x hx => hr.heap.ok o x (hHo o x hx), fun o x b hx hb => by rw [← hmd]; exact hr.heap.own o x b (hHo o x hx) hb, fun o o' x x' b hne hx hx' hb => hr.heap.inj o o' x x' b hne (hHo o x hx) (hHo o' x' hx') hb, hr.heap.lim⟩, fun o ho hn => absurd hn (hne o ho)⟩, hvo⟩
  rw [hr.hA, hA]
  show o < m + k ↔ _
  omega

/-! ### a call -/

theorem callsIn_FW {P : Program} {r : Option Nat} {n : Nat} {f : FuncId} {args : Array Value} {w : World} {R : Ending → World → Prop} (h : Calls P f args w R) : CallsIn (FW r) n P f args w R := by
  have h' := (callsIn_wide (n := n)).2 h
  exact ⟨trivial, fun cs hr => h'.2 cs (room_wide _)⟩

/-- names at a call: the callee's names 0, 1, .. are ids' entries, its new ones follow n -/
def sg (ids : List Nat) (n : Nat) (o : Nat) : Nat := ids.getD o (n + (o - ids.length))

/-- the contract of something that is entered with values -/
structure LCG (C : List Value → World → (Ending → World → Prop) → Prop) (m : Nat) (lvs : List LV) (Hi : List (Nat × LO)) (out : LV) (Ho : List (Nat × LO)) (k : Nat) : Prop where
  args : LV.lts m lvs = true
  rng : Hi.map (·.1) = List.range m
  hlt : ∀ p ∈ Hi, p.2.lt m = true
  hos : ∀ p ∈ Ho, p.1 ∈ Hi.map (·.1) ∨ (m ≤ p.1 ∧ p.1 < m + k)
  go : ∀ (cx : Cx) (w : World) (vs : List Value), (∀ o, cx.A o ↔ o < m) → HOk (fun _ => True) 0 cx (hp Hi) w → Amb cx.pr w → Vs cx w lvs vs →
    C vs w fun e w' => ∃ v cx', e = .returned v ∧ Tr cx w (hp Hi) cx' w' (hp Ho) (fun o => m ≤ o ∧ o < m + k) ∧ V cx' w' out v

theorem LCG.his {C : List Value → World → (Ending → World → Prop) → Prop} {m : Nat} {lvs : List LV} {Hi : List (Nat × LO)} {out : LV} {Ho : List (Nat × LO)} {k : Nat} (h : LCG C m lvs Hi out Ho k) :
    ∀ p ∈ Hi, p.1 < m ∧ p.2.lt m = true := fun p hp' => ⟨by
      have : p.1 ∈ Hi.map (·.1) := List.mem_map.2 ⟨p, hp', rfl⟩
      rw [h.rng] at this; simpa using this, h.hlt p hp'⟩

open Classical in
theorem LCG.use {C : List Value → World → (Ending → World → Prop) → Prop} {ids : List Nat} {lvs : List LV} {Hi Ho : List (Nat × LO)} {out : LV} {k n : Nat} (h : LCG C ids.length lvs Hi out Ho k)
    (hC : ∀ vs w R R', C vs w R → (∀ e w', R e w' → R' e w') → C vs w R')
    (hinj : ids.Nodup) {md : Nat → Prop} {n0 : Nat} {cx : Cx} {H : Hp} {w : World} {vs : List Value} (hok : HOk md n0 cx H w) (ham : Amb cx.pr w) (hids : ∀ o ∈ ids, cx.A o)
    (hHi : ∀ p ∈ Hi, H (sg ids n p.1) = some (p.2.mapI (sg ids n)))
    (hnew : ∀ i ∈ List.range' n k, ¬ cx.A i) (hv : Vs cx w (LV.mapIs (sg ids n) lvs) vs) :
    C vs w fun e w' => ∃ v cx', e = .returned v ∧
      Tr cx w (hp (Hi.map fun p => (sg ids n p.1, p.2.mapI (sg ids n)))) cx' w' (hp (Ho.map fun p => (sg ids n p.1, p.2.mapI (sg ids n)))) (· ∈ List.range' n k) ∧ V cx' w' (out.mapI (sg ids n)) v := by
  -- the callee's own view
  have hsg : ∀ o, o < ids.length → sg ids n o ∈ ids := by
    intro o ho
    simp only [sg, List.getD_eq_getElem?_getD, List.getElem?_eq_getElem ho, Option.getD_some]
    exact List.getElem_mem ho
  have hsgn : ∀ o, ids.length ≤ o → sg ids n o = n + (o - ids.length) := by
    intro o ho
    simp [sg, List.getD_eq_getElem?_getD, List.getElem?_eq_none ho]
  have hsginj : ∀ o o', o < ids.length → o' < ids.length → sg ids n o = sg ids n o' → o = o' := by
    intro o o' ho ho' he
    simp only [sg, List.getD_eq_getElem?_getD, List.getElem?_eq_getElem ho, List.getElem?_eq_getElem ho', Option.getD_some] at he
    rcases Nat.lt_trichotomy o o' with hlt | heq | hlt
    · exact absurd he (List.pairwise_iff_getElem.1 hinj o o' ho ho' hlt)
    · exact heq
    · exact absurd he.symm (List.pairwise_iff_getElem.1 hinj o' o ho' ho hlt)
  let c1 : Cx := ⟨cx.pr, fun o => o < ids.length, fun o => cx.loc (sg ids n o), fun o => cx.inn (sg ids n o)⟩
  have h1 : ∀ o, o < ids.length → c1.A o ∧ c1.loc o = cx.loc (sg ids n o) := fun o ho => ⟨ho, rfl⟩
  have mem_of : ∀ o x, hp Hi o = some x → (o, x) ∈ Hi := by
    intro o x hx
    clear hHi h
    induction Hi with
    | nil => simp at hx
    | cons p l ih =>
      obtain ⟨k', v'⟩ := p
      simp only [hp, List.lookup_cons] at hx
      split at hx
      · rename_i hh; simp at hh; subst hh; cases hx; simp
      · exact List.mem_cons_of_mem _ (ih hx)
  have has1 : ∀ o x b, c1.has o x b → cx.has (sg ids n o) (x.mapI (sg ids n)) b := by
    rintro o x b (hb | ⟨hb, hb'⟩)
    · exact .inl hb
    · exact .inr ⟨by rw [mapI_isBx]; exact hb, hb'⟩
  have hok1 : HOk (fun _ => True) 0 c1 (hp Hi) w := by
    refine ⟨fun o x hx => ?_, fun o x b hx hb => ?_, fun o o' x x' b hne hx hx' hb hb' => ?_, hok.lim⟩
    · have hm := mem_of o x hx
      obtain ⟨k1, k2⟩ := h.his _ hm
      exact ⟨k1, ObjOk.unren (cx1 := c1) (cx2 := cx) rfl h1 k1 k2 rfl (hok.ok _ _ (hHi _ hm)).2⟩
    · have hm := mem_of o x hx
      have := hok.own _ _ b (hHi _ hm) (has1 o x b hb)
      exact ⟨this.1, this.2.1, .inr trivial⟩
    · have hm := mem_of o x hx
      have hm' := mem_of o' x' hx'
      have hne' : sg ids n o ≠ sg ids n o' := fun e => hne (hsginj o o' (h.his _ hm).1 (h.his _ hm').1 e)
      exact hok.inj _ _ _ _ b hne' (hHi _ hm) (hHi _ hm') (has1 o x b hb) (has1 o' x' b hb')
  have hv1 : Vs c1 w lvs vs := Vs.unren (cx1 := c1) (cx2 := cx) rfl h1 lvs vs h.args hv
  refine hC _ _ _ _ (h.go c1 w vs (fun o => Iff.rfl) hok1 ham hv1) ?_
  rintro e w' ⟨v, c2, rfl, t, hvo⟩
  -- and back
  have hnA : ∀ o, cx.A o → ¬ (n ≤ o ∧ o < n + k) := fun o ho hn => hnew o (by simp [List.mem_range'_1, hn.1, hn.2]) ho
  have sgI : ∀ a b, c2.A a → c2.A b → sg ids n a = sg ids n b → a = b := by
    intro a b ha hb he
    rcases (t.A a).1 ha with h1 | h1 <;> rcases (t.A b).1 hb with h2 | h2
    · exact hsginj a b h1 h2 he
    · exfalso
      have := hsgn b h2.1
      exact hnA _ (hids _ (hsg a h1)) (by rw [he, this]; omega)
    · exfalso
      have := hsgn a h1.1
      exact hnA _ (hids _ (hsg b h2)) (by rw [← he, this]; omega)
    · have e1 := hsgn a h1.1
      have e2 := hsgn b h2.1
      rw [e1, e2] at he; omega
  let c3 : Cx := ⟨c2.pr, fun o => cx.A o ∨ o ∈ List.range' n k, fun o => if n ≤ o ∧ o < n + k then c2.loc (ids.length + (o - n)) else cx.loc o,
    fun o => if h : ∃ o', c2.A o' ∧ sg ids n o' = o then c2.inn (Classical.choose h) else cx.inn o⟩
  have hinn3 : ∀ o, c2.A o → c3.inn (sg ids n o) = c2.inn o := by
    intro o ho
    have hex : ∃ o', c2.A o' ∧ sg ids n o' = sg ids n o := ⟨o, ho, rfl⟩
    show (if h : ∃ o', c2.A o' ∧ sg ids n o' = sg ids n o then c2.inn (Classical.choose h) else cx.inn (sg ids n o)) = _
    rw [dif_pos hex]
    have hsp := Classical.choose_spec hex
    rw [sgI _ _ hsp.1 ho hsp.2]
  have hle : CxLe cx c3 := by
    intro o ho
    refine ⟨.inl ho, ?_⟩
    show (if n ≤ o ∧ o < n + k then c2.loc (ids.length + (o - n)) else cx.loc o) = _
    rw [if_neg (hnA o ho)]
  have hren : ∀ o, c2.A o → c3.A (sg ids n o) ∧ c3.loc (sg ids n o) = c2.loc o := by
    intro o ho
    rcases (t.A o).1 ho with hlt | ⟨hge, hlt⟩
    · have hlt' : o < ids.length := hlt
      refine ⟨.inl (hids _ (hsg o hlt')), ?_⟩
      show (if n ≤ sg ids n o ∧ sg ids n o < n + k then _ else cx.loc (sg ids n o)) = _
      rw [if_neg (hnA _ (hids _ (hsg o hlt')))]
      exact ((t.le o hlt).2).symm
    · rw [hsgn o hge]
      refine ⟨.inr (by simp [List.mem_range'_1]; omega), ?_⟩
      show (if n ≤ n + (o - ids.length) ∧ n + (o - ids.length) < n + k then c2.loc (ids.length + (n + (o - ids.length) - n)) else _) = _
      rw [if_pos (by omega)]
      congr 1; omega
  have lk : ∀ (l : List (Nat × LO)) (o : Nat) (x : LO), hp (l.map fun p => (sg ids n p.1, p.2.mapI (sg ids n))) o = some x → (∀ p ∈ l, c2.A p.1) → ∃ o' x', hp l o' = some x' ∧ sg ids n o' = o ∧ x = x'.mapI (sg ids n) ∧ c2.A o' := by
    intro l
    have sginj2 : ∀ a b, c2.A a → c2.A b → sg ids n a = sg ids n b → a = b := by
      intro a b ha hb he
      rcases (t.A a).1 ha with h1 | h1 <;> rcases (t.A b).1 hb with h2 | h2
      · exact hsginj a b h1 h2 he
      · exfalso
        have := hsgn b h2.1
        exact hnA _ (hids _ (hsg a h1)) (by rw [he, this]; omega)
      · exfalso
        have := hsgn a h1.1
        exact hnA _ (hids _ (hsg b h2)) (by rw [← he, this]; omega)
      · have e1 := hsgn a h1.1
        have e2 := hsgn b h2.1
        rw [e1, e2] at he; omega
    induction l with
    | nil => intro o x hx _; simp at hx
    | cons p l ih =>
      obtain ⟨k', v'⟩ := p
      intro o x hx hA
      simp only [hp, List.map_cons, List.lookup_cons] at hx
      split at hx
      · rename_i hh
        simp at hh
        cases hx
        exact ⟨k', v', by simp, hh.symm, rfl, hA (k', v') (by simp)⟩
      · rename_i hh
        obtain ⟨o', x', g1, g2, g3, g4⟩ := ih o x hx (fun p hp => hA p (List.mem_cons_of_mem _ hp))
        refine ⟨o', x', ?_, g2, g3, g4⟩
        simp only [hp, List.lookup_cons]
        have : (o' == k') = false := by
          simp only [beq_eq_false_iff_ne]
          rintro rfl
          simp [g2] at hh
        rw [this]; exact g1
  have hHoA : ∀ p ∈ Ho, c2.A p.1 := by
    intro p hpm
    rw [t.A]
    rcases h.hos p hpm with hh | hh
    · obtain ⟨q, hq, he⟩ := List.mem_map.1 hh
      exact .inl (by rw [← he]; exact (h.his q hq).1)
    · exact .inr hh
  have hHiA : ∀ p ∈ Hi, c2.A p.1 := fun p hpm => (t.A _).2 (.inl (h.his p hpm).1)
  have hkeys : (Hi.map fun p => (sg ids n p.1, p.2.mapI (sg ids n))).map (·.1) = ids := by
    rw [List.map_map]
    have : ((fun (x : Nat × LO) => x.1) ∘ fun (p : Nat × LO) => (sg ids n p.1, p.2.mapI (sg ids n))) = (sg ids n) ∘ (fun (p : Nat × LO) => p.1) := rfl
    rw [this, ← List.map_map, h.rng]
    apply List.ext_getElem
    · simp
    · intro q h1 h2
      simp only [List.getElem_map, List.getElem_range]
      simp [sg, List.getD_eq_getElem?_getD, h2]
  have blk_iff : ∀ b, blks c1 (hp Hi) b → blks cx (hp (Hi.map fun p => (sg ids n p.1, p.2.mapI (sg ids n)))) b := by
    rintro b ⟨o, x, hx, hb⟩
    have hm := mem_of o x hx
    exact ⟨sg ids n o, x.mapI (sg ids n), lookup_of_nodup (by rw [hkeys]; exact hinj) (List.mem_map.2 ⟨(o, x), hm, rfl⟩), has1 o x b hb⟩
  have has3 : ∀ o x b, c2.A o → (c3.has (sg ids n o) (x.mapI (sg ids n)) b ↔ c2.has o x b) := by
    intro o x b ho
    unfold Cx.has
    rw [mapI_isBx, (hren o ho).2, hinn3 o ho]
  refine ⟨v, c3, rfl, ⟨hle, fun o => Iff.rfl, ?_, ?_, fun o ho hn => ?_⟩, V.ren (cx1 := c2) (cx2 := c3) rfl hren out v hvo⟩
  · exact ⟨t.grow.os, t.grow.tape, t.grow.output, t.grow.size, fun b hb hn => t.grow.same b hb (fun hh => hn (blk_iff b hh)), fun b hb hn => t.grow.prs b hb (fun hh => hn (blk_iff b hh)), t.grow.ext⟩
  · refine ⟨fun o x hx => ?_, fun o x b hx hb => ?_, fun o o' x x' b hne hx hx' hb hb' => ?_, t.heap.lim⟩
    · obtain ⟨o', x', g1, rfl, rfl, g4⟩ := lk _ _ _ hx hHoA
      obtain ⟨a1, a2⟩ := t.heap.ok o' x' g1
      exact ⟨(hren o' g4).1, ObjOk.ren (cx1 := c2) (cx2 := c3) rfl hren a1 (hinn3 o' g4) a2⟩
    · obtain ⟨o', x', g1, rfl, rfl, g4⟩ := lk _ _ _ hx hHoA
      rw [has3 o' x' b g4] at hb
      obtain ⟨a1, a2, a3⟩ := t.heap.own o' x' b g1 hb
      exact ⟨a1, a2, a3.imp id (blk_iff b)⟩
    · obtain ⟨o1, x1, g1, rfl, rfl, g4⟩ := lk _ _ _ hx hHoA
      obtain ⟨o2, x2, k1, rfl, rfl, k4⟩ := lk _ _ _ hx' hHoA
      rw [has3 o1 x1 b g4] at hb
      rw [has3 o2 x2 b k4] at hb'
      exact t.heap.inj o1 o2 x1 x2 b (fun e => hne (by rw [e])) g1 k1 hb hb'
  · have hno : ¬ ∃ o', c2.A o' ∧ sg ids n o' = o := by
      rintro ⟨o', ho', rfl⟩
      rcases (t.A o').1 ho' with hlt | ⟨hge, hlt⟩
      · have hlt' : o' < ids.length := hlt
        have hmem : sg ids n o' ∈ (Hi.map fun p => (sg ids n p.1, p.2.mapI (sg ids n))).map (·.1) := by rw [hkeys]; exact hsg o' hlt'
        obtain ⟨q, hq, hqe⟩ := List.mem_map.1 hmem
        have := lookup_of_nodup (l := Hi.map fun p => (sg ids n p.1, p.2.mapI (sg ids n))) (k := q.1) (v := q.2) (by rw [hkeys]; exact hinj) hq
        rw [hqe] at this
        rw [show hp (Hi.map fun p => (sg ids n p.1, p.2.mapI (sg ids n))) (sg ids n o') = some q.2 from this] at hn
        cases hn
      · exact hnA _ ho (by rw [hsgn o' hge]; omega)
    show (if h : ∃ o', c2.A o' ∧ sg ids n o' = o then c2.inn (Classical.choose h) else cx.inn o) = _
    rw [dif_neg hno]

theorem LC.use {P : Program} {f : FuncId} {ids : List Nat} {lvs : List LV} {Hi Ho : List (Nat × LO)} {out : LV} {k n : Nat} (h : LC P f ids.length lvs Hi out Ho k)
    (hinj : ids.Nodup) {md : Nat → Prop} {n0 : Nat} {cx : Cx} {H : Hp} {w : World} {vs : List Value} (hok : HOk md n0 cx H w) (ham : Amb cx.pr w) (hids : ∀ o ∈ ids, cx.A o)
    (hHi : ∀ p ∈ Hi, H (sg ids n p.1) = some (p.2.mapI (sg ids n)))
    (hnew : ∀ i ∈ List.range' n k, ¬ cx.A i) (hv : Vs cx w (LV.mapIs (sg ids n) lvs) vs) :
    Calls P f vs.toArray w fun e w' => ∃ v cx', e = .returned v ∧
      Tr cx w (hp (Hi.map fun p => (sg ids n p.1, p.2.mapI (sg ids n)))) cx' w' (hp (Ho.map fun p => (sg ids n p.1, p.2.mapI (sg ids n)))) (· ∈ List.range' n k) ∧ V cx' w' (out.mapI (sg ids n)) v :=
  LCG.use (C := fun vs w R => Calls P f vs.toArray w R) ⟨h.args, h.rng, h.hlt, h.hos, h.go⟩ (fun _ _ _ _ hc hr => hc.mono hr) hinj hok ham hids hHi hnew hv

end Go.Proofs.YtnamkhifmankmaaDoor

/- The operations that leave memory alone: a rule for each. -/
namespace Go.Proofs.YtnamkhifmankmaaDoor

theorem OpC.of_run {P : Program} {r : Option Nat} {o : Oper} {lvs : List LV} {rd Hi Ho : List (Nat × LO)} {out : LV} {new : List Nat} (hnd : ∀ c, o.op ≠ .defer c)
    (hdom : ∀ p ∈ Ho, p.1 ∈ Hi.map (·.1) ∨ p.1 ∈ new)
    (h : ∀ (md : Nat → Prop) (n0 : Nat) (cx : Cx) (H : Hp) (ρ : Operand → Value) (w : World), HOk md n0 cx H w → (∀ o x, hp rd o = some x → H o = some x) → (∀ o x, hp Hi o = some x → H o = some x) →
      (∀ i ∈ new, ¬ cx.A i) → Vs cx w lvs (o.op.operands.toList.map ρ) →
      ∃ nx v w' cx', (execOp ρ o).run P w = .ok nx w' ∧ (nx = .value v ∨ (nx = .skip ∧ v = undef)) ∧ Tr cx w (hp Hi) cx' w' (hp Ho) (· ∈ new) ∧ V cx' w' out v) :
    OpC P r o lvs rd Hi out Ho new := by
  refine ⟨hdom, fun md n0 cx H a w K Q hok ham hrd hHi hnew hv hK => ?_⟩
  obtain ⟨nx, v, w', cx', h1, h2, h3, h4⟩ := h md n0 cx H a.eval w hok hrd hHi hnew hv
  refine ⟨fun _ _ => trivial, ?_⟩
  rw [Oper.semAt_eq _ _ _ hnd, h1]
  rcases h2 with rfl | ⟨rfl, rfl⟩
  · exact hK _ _ _ h3 h4
  · exact hK _ _ _ h3 h4

theorem OpC.of_pure {P : Program} {r : Option Nat} {o : Oper} {lvs : List LV} {rd : List (Nat × LO)} {out : LV} (hnd : ∀ c, o.op ≠ .defer c)
    (h : ∀ (md : Nat → Prop) (n0 : Nat) (cx : Cx) (H : Hp) (ρ : Operand → Value) (w : World), HOk md n0 cx H w → (∀ o x, hp rd o = some x → H o = some x) → Vs cx w lvs (o.op.operands.toList.map ρ) →
      ∃ v, (execOp ρ o).run P w = .ok (.value v) w ∧ V cx w out v) : OpC P r o lvs rd [] out [] [] :=
  OpC.of_run hnd (by simp) fun md n0 cx H ρ w hok hrd _ _ hv => by
    obtain ⟨v, h1, h2⟩ := h md n0 cx H ρ w hok hrd hv
    exact ⟨_, v, w, cx, h1, .inl rfl, Tr.idle hok, h2⟩

/-- one operand -/
theorem Vs.one {cx : Cx} {w : World} {l : LV} {x : Value} (h : Vs cx w [l] [x]) : V cx w l x := by
  simp only [Vs] at h
  obtain ⟨y, r, he, hv, rfl⟩ := h
  cases he; exact hv
theorem Vs.two {cx : Cx} {w : World} {l k : LV} {x y : Value} (h : Vs cx w [l, k] [x, y]) : V cx w l x ∧ V cx w k y := by
  simp only [Vs] at h
  obtain ⟨a, r, he, hv, b, r', rfl, hv', rfl⟩ := h
  cases he; exact ⟨hv, hv'⟩
theorem Vs.three {cx : Cx} {w : World} {l k j : LV} {x y z : Value} (h : Vs cx w [l, k, j] [x, y, z]) : V cx w l x ∧ V cx w k y ∧ V cx w j z := by
  simp only [Vs] at h
  obtain ⟨a, r, he, hv, b, r', rfl, hv', c, r'', rfl, hv'', rfl⟩ := h
  cases he; exact ⟨hv, hv', hv''⟩

abbrev LV.v (x : Value) : LV := .sv (.val x)
abbrev LV.i (n : Int) : LV := .sv (.val (.int .i64 n))
abbrev LV.u (n : Int) : LV := .sv (.val (.int .u64 n))
abbrev LV.b (b : Bool) : LV := .sv (.val (.bool b))
abbrev LV.s (s : ByteArray) : LV := .sv (.val (.string s))
abbrev LV.y (n : Int) : LV := .sv (.val (.int .u8 n))

theorem V.val {cx : Cx} {w : World} {x y : Value} (h : V cx w (.sv (.val x)) y) : y = x := by simpa [V, VS] using h
theorem V.mkval {cx : Cx} {w : World} {x : Value} : V cx w (.sv (.val x)) x := by simp [V, VS]

theorem OpC.of_pure1 {P : Program} {r : Option Nat} {o : Oper} {l : LV} {rd : List (Nat × LO)} {out : LV} {x : Operand} (hl : o.op.operands.toList = [x]) (hnd : ∀ c, o.op ≠ .defer c)
    (h : ∀ (md : Nat → Prop) (n0 : Nat) (cx : Cx) (H : Hp) (ρ : Operand → Value) (w : World), HOk md n0 cx H w → (∀ o x, hp rd o = some x → H o = some x) → V cx w l (ρ x) →
      ∃ v, (execOp ρ o).run P w = .ok (.value v) w ∧ V cx w out v) : OpC P r o [l] rd [] out [] [] :=
  OpC.of_pure hnd fun md n0 cx H ρ w h1 h2 h3 => h md n0 cx H ρ w h1 h2 (by rw [hl] at h3; exact Vs.one h3)
theorem OpC.of_pure2 {P : Program} {r : Option Nat} {o : Oper} {l k : LV} {rd : List (Nat × LO)} {out : LV} {x y : Operand} (hl : o.op.operands.toList = [x, y]) (hnd : ∀ c, o.op ≠ .defer c)
    (h : ∀ (md : Nat → Prop) (n0 : Nat) (cx : Cx) (H : Hp) (ρ : Operand → Value) (w : World), HOk md n0 cx H w → (∀ o x, hp rd o = some x → H o = some x) → V cx w l (ρ x) → V cx w k (ρ y) →
      ∃ v, (execOp ρ o).run P w = .ok (.value v) w ∧ V cx w out v) : OpC P r o [l, k] rd [] out [] [] :=
  OpC.of_pure hnd fun md n0 cx H ρ w h1 h2 h3 => by rw [hl] at h3; exact h md n0 cx H ρ w h1 h2 (Vs.two h3).1 (Vs.two h3).2
theorem OpC.of_pure3 {P : Program} {r : Option Nat} {o : Oper} {l k j : LV} {rd : List (Nat × LO)} {out : LV} {x y z : Operand} (hl : o.op.operands.toList = [x, y, z]) (hnd : ∀ c, o.op ≠ .defer c)
    (h : ∀ (md : Nat → Prop) (n0 : Nat) (cx : Cx) (H : Hp) (ρ : Operand → Value) (w : World), HOk md n0 cx H w → (∀ o x, hp rd o = some x → H o = some x) → V cx w l (ρ x) → V cx w k (ρ y) → V cx w j (ρ z) →
      ∃ v, (execOp ρ o).run P w = .ok (.value v) w ∧ V cx w out v) : OpC P r o [l, k, j] rd [] out [] [] :=
  OpC.of_pure hnd fun md n0 cx H ρ w h1 h2 h3 => by rw [hl] at h3; exact h md n0 cx H ρ w h1 h2 (Vs.three h3).1 (Vs.three h3).2.1 (Vs.three h3).2.2

section
variable {P : Program} {r : Option Nat} {N : Nat} {D : List Nat} {B : Base} {all : Array Oper} {K : List (Nat × Ct) → St → Prop}
variable {i : Nat} {ops : List Oper} {tr : List (Nat × Ct)} {E : List (Nat × Ent)} {L : List (Nat × LO)} {n : Nat} {g : Bool} {gn : List (Nat × Ent)}
variable {d ty : Nat} {pos : String} {aft : Array Edge} {gd : Option (Nat × Bool)}

/-- the trace's row for an operation that leaves the objects alone -/
abbrev Ct.p (gn : List (Nat × Ent)) (xs : List Operand) (es : List Ent) (d : Option Nat) (e : Ent) (rd : List (Nat × LO)) : Ct := ⟨gn ++ needOf xs es, d, e, rd, [], [], []⟩

/-- an operation of one operand that leaves the objects alone -/
theorem Reg.one {op : Op} {x : Operand} {e : Ent} {out : LV} {rd : List (Nat × LO)} (hop : op.operands = #[x]) (hO : g = true → OpC P r ⟨some d, op, ty, pos, aft, gd⟩ [entLV e] rd [] out [] [])
    (ho : all[i]? = some ⟨some d, op, ty, pos, aft, gd⟩) (hg : GuardOk (en E) all gd g gn) (hx : lvOf (en E) x = some e) (hrd : ∀ k y, hp rd k = some y → hp L k = some y)
    (h : Reg P r N D B all (i + 1) ops ((i, Ct.p gn [x] [e] (some d) (g, out) rd) :: tr) (st ((d, (g, out)) :: E) L n) K) :
    Reg P r N D B all i (⟨some d, op, ty, pos, aft, gd⟩ :: ops) tr (st E L n) K := by
  have hl : (Oper.mk (some d) op ty pos aft gd).op.operands.toList = [x] := by simp [hop]
  refine Reg.pure (es := [e]) ho hg ?_ hrd hO ?_
  · rw [hl]; exact ⟨_, _, rfl, hx, rfl⟩
  · rw [hl]; exact h
theorem Reg.two {op : Op} {x y : Operand} {e f : Ent} {out : LV} {rd : List (Nat × LO)} (hop : op.operands = #[x, y]) (hO : g = true → OpC P r ⟨some d, op, ty, pos, aft, gd⟩ [entLV e, entLV f] rd [] out [] [])
    (ho : all[i]? = some ⟨some d, op, ty, pos, aft, gd⟩) (hg : GuardOk (en E) all gd g gn) (hx : lvOf (en E) x = some e) (hy : lvOf (en E) y = some f) (hrd : ∀ k y, hp rd k = some y → hp L k = some y)
    (h : Reg P r N D B all (i + 1) ops ((i, Ct.p gn [x, y] [e, f] (some d) (g, out) rd) :: tr) (st ((d, (g, out)) :: E) L n) K) :
    Reg P r N D B all i (⟨some d, op, ty, pos, aft, gd⟩ :: ops) tr (st E L n) K := by
  have hl : (Oper.mk (some d) op ty pos aft gd).op.operands.toList = [x, y] := by simp [hop]
  refine Reg.pure (es := [e, f]) ho hg ?_ hrd hO ?_
  · rw [hl]; exact ⟨_, _, rfl, hx, _, _, rfl, hy, rfl⟩
  · rw [hl]; exact h
theorem Reg.three {op : Op} {x y z : Operand} {e f j : Ent} {out : LV} {rd : List (Nat × LO)} (hop : op.operands = #[x, y, z]) (hO : g = true → OpC P r ⟨some d, op, ty, pos, aft, gd⟩ [entLV e, entLV f, entLV j] rd [] out [] [])
    (ho : all[i]? = some ⟨some d, op, ty, pos, aft, gd⟩) (hg : GuardOk (en E) all gd g gn) (hx : lvOf (en E) x = some e) (hy : lvOf (en E) y = some f) (hz : lvOf (en E) z = some j) (hrd : ∀ k y, hp rd k = some y → hp L k = some y)
    (h : Reg P r N D B all (i + 1) ops ((i, Ct.p gn [x, y, z] [e, f, j] (some d) (g, out) rd) :: tr) (st ((d, (g, out)) :: E) L n) K) :
    Reg P r N D B all i (⟨some d, op, ty, pos, aft, gd⟩ :: ops) tr (st E L n) K := by
  have hl : (Oper.mk (some d) op ty pos aft gd).op.operands.toList = [x, y, z] := by simp [hop]
  refine Reg.pure (es := [e, f, j]) ho hg ?_ hrd hO ?_
  · rw [hl]; exact ⟨_, _, rfl, hx, _, _, rfl, hy, _, _, rfl, hz, rfl⟩
  · rw [hl]; exact h

theorem entLV_eq {g : Bool} (h : g = true) (lv : LV) : entLV (g, lv) = lv := by rw [h]; rfl
theorem entLV_true {g gx : Bool} {l : LV} (hg : g = true) (h : g = true → gx = true) : entLV (gx, l) = l := by rw [h hg]; rfl

/-! moves -/

theorem R.move {x : Operand} {gx : Bool} {lv : LV} (ho : all[i]? = some ⟨some d, .move x, ty, pos, aft, gd⟩ := by rfl) (hg : GuardOk (en E) all gd g gn := by first | exact gN | exact gS rfl rfl)
    (hx : lvOf (en E) x = some (gx, lv) := by rfl) (hgx : g = true → gx = true := by first | exact fun _ => rfl | exact id)
    (h : Reg P r N D B all (i + 1) ops ((i, Ct.p gn [x] [(gx, lv)] (some d) (g, lv) []) :: tr) (st ((d, (g, lv)) :: E) L n) K) :
    Reg P r N D B all i (⟨some d, .move x, ty, pos, aft, gd⟩ :: ops) tr (st E L n) K :=
  Reg.one rfl (fun h => by
    rw [entLV_true h hgx]
    exact OpC.of_pure1 (x := x) rfl (by simp) fun md n0 cx H ρ w _ _ hv => ⟨ρ x, rfl, hv⟩) ho hg hx (by simp) h
theorem R.assign {x : Operand} {gx : Bool} {lv : LV} (ho : all[i]? = some ⟨some d, .assign x, ty, pos, aft, gd⟩ := by rfl) (hg : GuardOk (en E) all gd g gn := by first | exact gN | exact gS rfl rfl)
    (hx : lvOf (en E) x = some (gx, lv) := by rfl) (hgx : g = true → gx = true := by first | exact fun _ => rfl | exact id)
    (h : Reg P r N D B all (i + 1) ops ((i, Ct.p gn [x] [(gx, lv)] (some d) (g, lv) []) :: tr) (st ((d, (g, lv)) :: E) L n) K) :
    Reg P r N D B all i (⟨some d, .assign x, ty, pos, aft, gd⟩ :: ops) tr (st E L n) K :=
  Reg.one rfl (fun h => by
    rw [entLV_true h hgx]
    exact OpC.of_pure1 (x := x) rfl (by simp) fun md n0 cx H ρ w _ _ hv => ⟨ρ x, rfl, hv⟩) ho hg hx (by simp) h
theorem R.extract {x : Operand} {gx : Bool} {cs : List LV} {lv : LV} {ix : Nat} (ho : all[i]? = some ⟨some d, .extract x ix, ty, pos, aft, gd⟩ := by rfl) (hg : GuardOk (en E) all gd g gn := by first | exact gN | exact gS rfl rfl)
    (hx : lvOf (en E) x = some (gx, .tup cs) := by rfl) (hgx : g = true → gx = true := by first | exact fun _ => rfl | exact id) (hc : cs[ix]? = some lv := by rfl)
    (h : Reg P r N D B all (i + 1) ops ((i, Ct.p gn [x] [(gx, .tup cs)] (some d) (g, lv) []) :: tr) (st ((d, (g, lv)) :: E) L n) K) :
    Reg P r N D B all i (⟨some d, .extract x ix, ty, pos, aft, gd⟩ :: ops) tr (st E L n) K :=
  Reg.one rfl (fun h => by
    rw [entLV_true h hgx]
    refine OpC.of_pure1 (x := x) rfl (by simp) fun md n0 cx H ρ w _ _ hv => ?_
    simp only [V] at hv
    obtain ⟨vs, h1, h2⟩ := hv
    obtain ⟨v, h3, h4⟩ := h2.get hc
    exact ⟨v, by simp [execOp, Instr.extract, h1, h3], h4⟩) ho hg hx (by simp) h

/-! booleans -/

theorem R.or {c y : Operand} {gc gy : Bool} {p q : Bool} (ho : all[i]? = some ⟨some d, .pick c (.const (.bool true)) y, ty, pos, aft, gd⟩ := by rfl) (hg : GuardOk (en E) all gd g gn := by first | exact gN | exact gS rfl rfl)
    (hc : lvOf (en E) c = some (gc, .b p) := by rfl) (hy : lvOf (en E) y = some (gy, .b q) := by rfl) (hgc : g = true → gc = true := by first | exact fun _ => rfl | exact id)
    (hgy : g = true → p = false → gy = true := by first | exact fun _ _ => rfl | (intro _ h; rw [h]; first | done | rfl) | (intro _ h; simp [h]; done) | (intro h1 h2; simp [h1, h2]; done) | (intro h1 h2; simp_all))
    (h : Reg P r N D B all (i + 1) ops ((i, Ct.p gn [c, .const (.bool true), y] [(gc, .b p), (true, .b true), (gy, .b q)] (some d) (g, .b (p || q)) []) :: tr) (st ((d, (g, .b (p || q))) :: E) L n) K) :
    Reg P r N D B all i (⟨some d, .pick c (.const (.bool true)) y, ty, pos, aft, gd⟩ :: ops) tr (st E L n) K :=
  Reg.three rfl (fun hgt => by
    rw [entLV_true hgt hgc]
    refine OpC.of_pure3 rfl (by simp) fun md n0 cx H ρ w _ _ v1 v2 v3 => ?_
    have e1 := v1.val
    have e2 : ρ (.const (.bool true)) = .bool true := V.val v2
    cases p with
    | true => exact ⟨.bool true, by simp [execOp, e1, e2, asBool], V.mkval⟩
    | false =>
      have hgy' := hgy hgt rfl
      subst hgy'
      have e3 : ρ y = .bool q := V.val v3
      exact ⟨.bool q, by simp [execOp, e1, e3, asBool], V.mkval⟩) ho hg hc rfl hy (by simp) h
theorem R.and {c y : Operand} {gc gy : Bool} {p q : Bool} (ho : all[i]? = some ⟨some d, .pick c y (.const (.bool false)), ty, pos, aft, gd⟩ := by rfl) (hg : GuardOk (en E) all gd g gn := by first | exact gN | exact gS rfl rfl)
    (hc : lvOf (en E) c = some (gc, .b p) := by rfl) (hy : lvOf (en E) y = some (gy, .b q) := by rfl) (hgc : g = true → gc = true := by first | exact fun _ => rfl | exact id)
    (hgy : g = true → p = true → gy = true := by first | exact fun _ _ => rfl | (intro _ h; rw [h]; first | done | rfl) | (intro _ h; simp [h]; done) | (intro h1 h2; simp [h1, h2]; done) | (intro h1 h2; simp_all))
    (h : Reg P r N D B all (i + 1) ops ((i, Ct.p gn [c, y, .const (.bool false)] [(gc, .b p), (gy, .b q), (true, .b false)] (some d) (g, .b (p && q)) []) :: tr) (st ((d, (g, .b (p && q))) :: E) L n) K) :
    Reg P r N D B all i (⟨some d, .pick c y (.const (.bool false)), ty, pos, aft, gd⟩ :: ops) tr (st E L n) K :=
  Reg.three rfl (fun hgt => by
    rw [entLV_true hgt hgc]
    refine OpC.of_pure3 rfl (by simp) fun md n0 cx H ρ w _ _ v1 v2 v3 => ?_
    have e1 := v1.val
    have e2 : ρ (.const (.bool false)) = .bool false := V.val v3
    cases p with
    | false => exact ⟨.bool false, by simp [execOp, e1, e2, asBool], V.mkval⟩
    | true =>
      have hgy' := hgy hgt rfl
      subst hgy'
      have e3 : ρ y = .bool q := V.val v2
      exact ⟨.bool q, by simp [execOp, e1, e3, asBool], V.mkval⟩) ho hg hc hy rfl (by simp) h
theorem R.not {t : Nat} {x : Operand} {gx : Bool} {p : Bool} (ho : all[i]? = some ⟨some d, .unOp .not t x, ty, pos, aft, gd⟩ := by rfl) (hg : GuardOk (en E) all gd g gn := by first | exact gN | exact gS rfl rfl)
    (hx : lvOf (en E) x = some (gx, .b p) := by rfl) (hgx : g = true → gx = true := by first | exact fun _ => rfl | exact id)
    (h : Reg P r N D B all (i + 1) ops ((i, Ct.p gn [x] [(gx, .b p)] (some d) (g, .b (!p)) []) :: tr) (st ((d, (g, .b (!p))) :: E) L n) K) :
    Reg P r N D B all i (⟨some d, .unOp .not t x, ty, pos, aft, gd⟩ :: ops) tr (st E L n) K :=
  Reg.one rfl (fun h => by
    rw [entLV_true h hgx]
    refine OpC.of_pure1 (x := x) rfl (by simp) fun md n0 cx H ρ w _ _ hv => ?_
    have e := hv.val
    exact ⟨.bool (!p), by simp [execOp, Op.unary, e], V.mkval⟩) ho hg hx (by simp) h

/-! integers -/

/-- an operator on two plain values -/
theorem R.bin {op : BinOp} {t yt : Nat} {x y : Operand} {gx gy : Bool} {a b v : Value} (hv : ∀ w, (do eqGuard op t x y a b; binOp op t a b : Sem Value).run P w = .ok v w)
    (ho : all[i]? = some ⟨some d, .binOp op t x y yt, ty, pos, aft, gd⟩ := by rfl) (hg : GuardOk (en E) all gd g gn := by first | exact gN | exact gS rfl rfl)
    (hx : lvOf (en E) x = some (gx, .v a) := by rfl) (hy : lvOf (en E) y = some (gy, .v b) := by rfl)
    (hgx : g = true → gx = true := by first | exact fun _ => rfl | exact id) (hgy : g = true → gy = true := by first | exact fun _ => rfl | exact id)
    (h : Reg P r N D B all (i + 1) ops ((i, Ct.p gn [x, y] [(gx, .v a), (gy, .v b)] (some d) (g, .v v) []) :: tr) (st ((d, (g, .v v)) :: E) L n) K) :
    Reg P r N D B all i (⟨some d, .binOp op t x y yt, ty, pos, aft, gd⟩ :: ops) tr (st E L n) K :=
  Reg.two rfl (fun h => by
    rw [entLV_true h hgx, entLV_true h hgy]
    refine OpC.of_pure2 (x := x) (y := y) rfl (by simp) fun md n0 cx H ρ w _ _ v1 v2 => ?_
    refine ⟨v, ?_, V.mkval⟩
    have := hv w
    rw [← v1.val, ← v2.val] at this
    simp only [execOp]
    rw [Sem.run_bind, this]
    rfl) ho hg hx hy (by simp) h

theorem binI (op : BinOp) (hop : (op matches .eql | .neq) = false) (t : Nat) (x y : Operand) (k : IntKind) (a b : Int) {v : Value} (h : ∀ w, (binOp op t (.int k a) (.int k b)).run P w = .ok v w) :
    ∀ w, (do eqGuard op t x y (.int k a) (.int k b); binOp op t (.int k a) (.int k b) : Sem Value).run P w = .ok v w := by
  intro w
  have : (eqGuard op t x y (.int k a) (.int k b)).run P w = .ok () w := by cases op <;> simp_all [eqGuard]
  rw [Sem.run_bind, this]
  exact h w

theorem run_lss (t : Nat) (x y : Operand) (k : IntKind) (a b : Int) : ∀ w, (do eqGuard .lss t x y (.int k a) (.int k b); binOp .lss t (.int k a) (.int k b) : Sem Value).run P w = .ok (.bool (decide (a < b))) w :=
  binI .lss rfl t x y k a b fun w => by simp [binOp, Op.intCmp]
theorem run_leq (t : Nat) (x y : Operand) (k : IntKind) (a b : Int) : ∀ w, (do eqGuard .leq t x y (.int k a) (.int k b); binOp .leq t (.int k a) (.int k b) : Sem Value).run P w = .ok (.bool (decide (a ≤ b))) w :=
  binI .leq rfl t x y k a b fun w => by simp [binOp, Op.intCmp]
theorem run_gtr (t : Nat) (x y : Operand) (k : IntKind) (a b : Int) : ∀ w, (do eqGuard .gtr t x y (.int k a) (.int k b); binOp .gtr t (.int k a) (.int k b) : Sem Value).run P w = .ok (.bool (decide (b < a))) w :=
  binI .gtr rfl t x y k a b fun w => by simp [binOp, Op.intCmp]
theorem run_geq (t : Nat) (x y : Operand) (k : IntKind) (a b : Int) : ∀ w, (do eqGuard .geq t x y (.int k a) (.int k b); binOp .geq t (.int k a) (.int k b) : Sem Value).run P w = .ok (.bool (decide (b ≤ a))) w :=
  binI .geq rfl t x y k a b fun w => by simp [binOp, Op.intCmp]
theorem run_eql (t : Nat) (x y : Operand) (k : IntKind) (a b : Int) : ∀ w, (do eqGuard .eql t x y (.int k a) (.int k b); binOp .eql t (.int k a) (.int k b) : Sem Value).run P w = .ok (.bool (decide (a = b))) w := by
  intro w
  have : (a == b) = decide (a = b) := by by_cases h : a = b <;> simp [h]
  simp [eqGuard, binOp, Op.intCmp, this]
theorem run_neq (t : Nat) (x y : Operand) (k : IntKind) (a b : Int) : ∀ w, (do eqGuard .neq t x y (.int k a) (.int k b); binOp .neq t (.int k a) (.int k b) : Sem Value).run P w = .ok (.bool (!decide (a = b))) w := by
  intro w
  have : (a != b) = !decide (a = b) := by by_cases h : a = b <;> simp [h]
  simp [eqGuard, binOp, Op.intCmp, this]
theorem run_addW (t : Nat) (x y : Operand) (k : IntKind) (a b : Int) : ∀ w, (do eqGuard .add t x y (.int k a) (.int k b); binOp .add t (.int k a) (.int k b) : Sem Value).run P w = .ok (.int k (k.wrap (a + b))) w :=
  binI .add rfl t x y k a b fun w => by simp [binOp, Op.intArith]
theorem run_subW (t : Nat) (x y : Operand) (k : IntKind) (a b : Int) : ∀ w, (do eqGuard .sub t x y (.int k a) (.int k b); binOp .sub t (.int k a) (.int k b) : Sem Value).run P w = .ok (.int k (k.wrap (a - b))) w :=
  binI .sub rfl t x y k a b fun w => by simp [binOp, Op.intArith]
theorem run_mulW (t : Nat) (x y : Operand) (k : IntKind) (a b : Int) : ∀ w, (do eqGuard .mul t x y (.int k a) (.int k b); binOp .mul t (.int k a) (.int k b) : Sem Value).run P w = .ok (.int k (k.wrap (a * b))) w :=
  binI .mul rfl t x y k a b fun w => by simp [binOp, Op.intArith]
theorem run_add (t : Nat) (x y : Operand) (k : IntKind) (a b : Int) (h : k.wrap (a + b) = a + b) : ∀ w, (do eqGuard .add t x y (.int k a) (.int k b); binOp .add t (.int k a) (.int k b) : Sem Value).run P w = .ok (.int k (a + b)) w := by
  have := run_addW (P := P) t x y k a b; rwa [h] at this
theorem run_sub (t : Nat) (x y : Operand) (k : IntKind) (a b : Int) (h : k.wrap (a - b) = a - b) : ∀ w, (do eqGuard .sub t x y (.int k a) (.int k b); binOp .sub t (.int k a) (.int k b) : Sem Value).run P w = .ok (.int k (a - b)) w := by
  have := run_subW (P := P) t x y k a b; rwa [h] at this
theorem run_mul (t : Nat) (x y : Operand) (k : IntKind) (a b : Int) (h : k.wrap (a * b) = a * b) : ∀ w, (do eqGuard .mul t x y (.int k a) (.int k b); binOp .mul t (.int k a) (.int k b) : Sem Value).run P w = .ok (.int k (a * b)) w := by
  have := run_mulW (P := P) t x y k a b; rwa [h] at this

theorem toList_data (a : ByteArray) : a.toList = a.data.toList := ByteArray.toList_eq a
theorem run_eqlS (t : Nat) (x y : Operand) (a b : ByteArray) : ∀ w, (do eqGuard .eql t x y (.string a) (.string b); binOp .eql t (.string a) (.string b) : Sem Value).run P w = .ok (.bool (decide (a = b))) w := by
  intro w
  have : (a.toList == b.toList) = decide (a = b) := by
    by_cases h : a = b
    · subst h; simp
    · have : a.toList ≠ b.toList := by
        rw [toList_data, toList_data]
        intro he
        apply h
        cases a; cases b
        simp only [ByteArray.mk.injEq]
        exact Array.toList_inj.1 he
      simp [h, this]
  simp [eqGuard, binOp, Op.stringOp, this]
theorem run_neqS (t : Nat) (x y : Operand) (a b : ByteArray) : ∀ w, (do eqGuard .neq t x y (.string a) (.string b); binOp .neq t (.string a) (.string b) : Sem Value).run P w = .ok (.bool (!decide (a = b))) w := by
  intro w
  have h := run_eqlS (P := P) t x y a b w
  simp only [Sem.run_bind] at h ⊢
  have : (eqGuard .neq t x y (.string a) (.string b)).run P w = .ok () w := by simp [eqGuard]
  have h2 : (eqGuard .eql t x y (.string a) (.string b)).run P w = .ok () w := by simp [eqGuard]
  rw [h2] at h
  rw [this]
  simp [binOp, Op.stringOp] at h ⊢
  exact h

/-- a conversion of integers -/
theorem R.conv {s t : Nat} {x : Operand} {gx : Bool} {a v : Value} (hv : ∀ w, (convert s t a).run P w = .ok v w) (ho : all[i]? = some ⟨some d, .convert s t x, ty, pos, aft, gd⟩ := by rfl)
    (hg : GuardOk (en E) all gd g gn := by first | exact gN | exact gS rfl rfl)
    (hx : lvOf (en E) x = some (gx, .v a) := by rfl) (hgx : g = true → gx = true := by first | exact fun _ => rfl | exact id)
    (h : Reg P r N D B all (i + 1) ops ((i, Ct.p gn [x] [(gx, .v a)] (some d) (g, .v v) []) :: tr) (st ((d, (g, .v v)) :: E) L n) K) :
    Reg P r N D B all i (⟨some d, .convert s t x, ty, pos, aft, gd⟩ :: ops) tr (st E L n) K :=
  Reg.one rfl (fun h => by
    rw [entLV_true h hgx]
    refine OpC.of_pure1 (x := x) rfl (by simp) fun md n0 cx H ρ w _ _ hvv => ?_
    have e := hvv.val
    exact ⟨v, by simp [execOp, e, hv w], V.mkval⟩) ho hg hx (by simp) h
theorem run_convI {s t : Nat} {k k' : IntKind} {a : Int} {ds : TypeDesc} (hs : ∀ w, (underlying s).run P w = .ok ds w) (ht : ∀ w, (underlying t).run P w = .ok (.int k') w) : ∀ w, (convert s t (.int k a)).run P w = .ok (.int k' (k'.wrap a)) w :=
  fun w => by cases ds <;> simp [convert, hs w, ht w, Conv.intToInt]

/-! fields, indexes: what the types say is laid once for a program -/

def FieldF (P : Program) (T f fo : Nat) : Prop := ∀ (b off : Nat) (w : World), (Instr.fieldAt T (.pointer (some ⟨b, off, none⟩)) f).run P w = .ok (.pointer (some ⟨b, off + fo, none⟩)) w
def IndexF (P : Program) (T sz : Nat) : Prop := ∀ (b off len cap : Nat) (k : IntKind) (i : Int) (w : World), 0 ≤ i → i < len →
  (Instr.indexAt T (.slice (some ⟨b, off, none⟩) len cap) (.int k i)).run P w = .ok (.pointer (some ⟨b, off + i.toNat * sz, none⟩)) w
def IndexAF (P : Program) (T len sz : Nat) : Prop := ∀ (b off : Nat) (k : IntKind) (i : Int) (w : World), 0 ≤ i → i < len →
  (Instr.indexAt T (.pointer (some ⟨b, off, none⟩)) (.int k i)).run P w = .ok (.pointer (some ⟨b, off + i.toNat * sz, none⟩)) w
def AggF (P : Program) (T sz : Nat) : Prop := (∀ w, (isAgg T).run P w = .ok true w) ∧ (∀ w, (sizeOf T).run P w = .ok sz w)
def OneF (P : Program) (T : Nat) : Prop := (∀ w, (isAgg T).run P w = .ok false w) ∧ (∀ w, (sizeOf T).run P w = .ok 1 w)

theorem FieldF.of {T f fo m : Nat} {fs : Array Field} {fl : Field} (hT : ∀ w, (underlying T).run P w = .ok (.struct fs) w) (hf : fs[f]? = some fl) (ho : fl.offset = fo) (hz : ∀ w, (sizeOf fl.type).run P w = .ok (m + 1) w) : FieldF P T f fo := by
  intro b off w
  subst ho
  simp only [Instr.fieldAt, Sem.run_bind, hT w, Result.andThen_ok, hf, Instr.sureAddr, Sem.run_pure, fieldPlace, hz w]
  simp only [Nat.add_one_ne_zero, if_false, Sem.run_bind, Sem.run_pure, Result.andThen_ok, Addr.add]
  split <;> simp_all
theorem IndexF.of {T e sz : Nat} (hT : ∀ w, (underlying T).run P w = .ok (.slice e) w) (hz : ∀ w, (sizeOf e).run P w = .ok sz w) : IndexF P T sz := by
  intro b off len cap k i w h0 h1
  simp only [Instr.indexAt, asIntOf, Sem.run_bind, Sem.run_pure, hT w, Result.andThen_ok]
  simp only [h0, h1, and_self, if_true, Sem.run_bind, hz w, Result.andThen_ok, Sem.run_pure, Addr.add]
  split <;> simp_all
theorem IndexAF.of {T e sz len : Nat} (hT : ∀ w, (underlying T).run P w = .ok (.array len e) w) (hz : ∀ w, (sizeOf e).run P w = .ok sz w) : IndexAF P T len sz := by
  intro b off k i w h0 h1
  simp only [Instr.indexAt, asIntOf, Sem.run_bind, Sem.run_pure, hT w, Result.andThen_ok, Instr.sureAddr]
  simp only [h0, h1, and_self, if_true, Sem.run_bind, hz w, Result.andThen_ok, Sem.run_pure, Addr.add]
  split <;> simp_all

theorem R.field {T f fo : Nat} (hF : FieldF P T f fo) {x : Operand} {gx : Bool} {o off : Nat}
    (ho : all[i]? = some ⟨some d, .fieldAddr T x f, ty, pos, aft, gd⟩ := by rfl) (hg : GuardOk (en E) all gd g gn := by first | exact gN | exact gS rfl rfl)
    (hx : lvOf (en E) x = some (gx, .ptr o off) := by rfl) (hgx : g = true → gx = true := by first | exact fun _ => rfl | exact id)
    (h : Reg P r N D B all (i + 1) ops ((i, Ct.p gn [x] [(gx, .ptr o off)] (some d) (g, .ptr o (off + fo)) []) :: tr) (st ((d, (g, .ptr o (off + fo))) :: E) L n) K) :
    Reg P r N D B all i (⟨some d, .fieldAddr T x f, ty, pos, aft, gd⟩ :: ops) tr (st E L n) K :=
  Reg.one rfl (fun h => by
    rw [entLV_true h hgx]
    refine OpC.of_pure1 (x := x) rfl (by simp) fun md n0 cx H ρ w _ _ hvv => ?_
    have e := hvv
    simp only [V] at e
    obtain ⟨hA, b, hb, he⟩ := e
    refine ⟨.pointer (some ⟨b, off + fo, none⟩), ?_, by simp only [V]; exact ⟨hA, b, hb, rfl⟩⟩
    simp [execOp, he, hF b off w]) ho hg hx (by simp) h
theorem VSC.drop {pr : Nat → Nat} {w : World} {b : Nat} : ∀ (k : Nat) {cs : List SV} {off : Nat}, VSC pr w b off cs → VSC pr w b (off + k) (cs.drop k)
  | 0, cs, off, h => by simpa using h
  | k + 1, [], off, h => by simp [VSC]
  | k + 1, c :: cs, off, h => by
    simp only [VSC] at h
    simp only [List.drop_succ_cons]
    have := VSC.drop k h.2
    rwa [show off + 1 + k = off + (k + 1) from by omega] at this
theorem VSC.get {pr : Nat → Nat} {w : World} {b : Nat} : ∀ {cs : List SV} {off : Nat}, VSC pr w b off cs → ∀ {k : Nat} {c : SV}, cs[k]? = some c → ∃ v, w.cell? ⟨b, off + k, none⟩ = some v ∧ v.oneCell' = true ∧ VS pr w c v
  | [], off, h, k, c, hc => by simp at hc
  | c :: cs, off, h, 0, d, hc => by simp only [VSC] at h; simp at hc; subst hc; simpa using h.1
  | c :: cs, off, h, k + 1, d, hc => by
    simp only [VSC] at h
    obtain ⟨v, h1, ho, h2⟩ := VSC.get h.2 (k := k) (by simpa using hc)
    exact ⟨v, by rwa [show off + 1 + k = off + (k + 1) from by omega] at h1, ho, h2⟩
theorem VSR.get {pr : Nat → Nat} {w : World} {b : Nat} : ∀ {xs : List (List SV)} {off sz : Nat}, VSR pr w b off sz xs → ∀ {k : Nat} {e : List SV}, xs[k]? = some e → e.length = sz ∧ VSC pr w b (off + k * sz) e
  | [], off, sz, h, k, e, he => by simp at he
  | e :: es, off, sz, h, 0, d, hd => by simp only [VSR] at h; simp at hd; subst hd; simpa using ⟨h.1, h.2.1⟩
  | e :: es, off, sz, h, k + 1, d, hd => by
    simp only [VSR] at h
    obtain ⟨h1, h2⟩ := VSR.get h.2.2 (k := k) (by simpa using hd)
    refine ⟨h1, ?_⟩
    rwa [show off + sz + k * sz = off + (k + 1) * sz from by rw [Nat.add_mul]; omega] at h2

/-- a field of an element of a slice that is not written any more -/
theorem R.fieldAt {T f fo : Nat} (hF : FieldF P T f fo) {x : Operand} {gx : Bool} {cs : List SV}
    (ho : all[i]? = some ⟨some d, .fieldAddr T x f, ty, pos, aft, gd⟩ := by rfl) (hg : GuardOk (en E) all gd g gn := by first | exact gN | exact gS rfl rfl)
    (hx : lvOf (en E) x = some (gx, .sv (.at_ cs)) := by rfl) (hgx : g = true → gx = true := by first | exact fun _ => rfl | exact id) (hl : fo ≤ cs.length := by first | exact Nat.le_of_ble_eq_true rfl | decide | (simp; done) | skip)
    (h : Reg P r N D B all (i + 1) ops ((i, Ct.p gn [x] [(gx, .sv (.at_ cs))] (some d) (g, .sv (.at_ (cs.drop fo))) []) :: tr) (st ((d, (g, .sv (.at_ (cs.drop fo)))) :: E) L n) K) :
    Reg P r N D B all i (⟨some d, .fieldAddr T x f, ty, pos, aft, gd⟩ :: ops) tr (st E L n) K :=
  Reg.one rfl (fun h => by
    rw [entLV_true h hgx]
    refine OpC.of_pure1 (x := x) rfl (by simp) fun md n0 cx H ρ w _ _ hvv => ?_
    have e := hvv
    simp only [V, VS] at e
    obtain ⟨b, off, he, hp, hc⟩ := e
    refine ⟨.pointer (some ⟨b, off + fo, none⟩), by simp [execOp, he, hF b off w], ?_⟩
    simp only [V, VS]
    exact ⟨b, off + fo, rfl, by rw [List.length_drop]; omega, VSC.drop fo hc⟩) ho hg hx (by simp) h

/-- an element of a slice that is not written any more -/
theorem R.index {T sz : Nat} (hF : IndexF P T sz) {x y : Operand} {gx gy : Bool} {xs : List (List SV)} {k : IntKind} {j : Int} {e : List SV}
    (ho : all[i]? = some ⟨some d, .indexAddr T x y, ty, pos, aft, gd⟩ := by rfl) (hg : GuardOk (en E) all gd g gn := by first | exact gN | exact gS rfl rfl)
    (hx : lvOf (en E) x = some (gx, .sv (.sl sz xs)) := by rfl) (hy : lvOf (en E) y = some (gy, .v (.int k j)) := by rfl)
    (hgx : g = true → gx = true := by first | exact fun _ => rfl | exact id) (hgy : g = true → gy = true := by first | exact fun _ => rfl | exact id)
    (hj : g = true → 0 ≤ j ∧ xs[j.toNat]? = some e)
    (h : Reg P r N D B all (i + 1) ops ((i, Ct.p gn [x, y] [(gx, .sv (.sl sz xs)), (gy, .v (.int k j))] (some d) (g, .sv (.at_ e)) []) :: tr) (st ((d, (g, .sv (.at_ e))) :: E) L n) K) :
    Reg P r N D B all i (⟨some d, .indexAddr T x y, ty, pos, aft, gd⟩ :: ops) tr (st E L n) K :=
  Reg.two rfl (fun h => by
    rw [entLV_true h hgx, entLV_true h hgy]
    refine OpC.of_pure2 (x := x) (y := y) rfl (by simp) fun md n0 cx H ρ w _ _ v1 v2 => ?_
    obtain ⟨h0, he⟩ := hj h
    have hlt := (List.getElem?_eq_some_iff.1 he).1
    simp only [V, VS] at v1
    rcases v1 with ⟨_, rfl⟩ | ⟨b, off, cap, h1, _, _, h2, h3⟩
    · simp at he
    · obtain ⟨hlen, hc⟩ := h3.get he
      refine ⟨.pointer (some ⟨b, off + j.toNat * sz, none⟩), by simp [execOp, h1, v2.val, hF b off xs.length cap k j w h0 (by omega)], ?_⟩
      simp only [V, VS]
      refine ⟨b, _, rfl, ?_, hc⟩
      have : (j.toNat + 1) * sz ≤ xs.length * sz := Nat.mul_le_mul_right _ hlt
      rw [Nat.add_mul] at this
      omega) ho hg hx hy (by simp) h

/-- a cell that is not written any more -/
theorem R.load1 {T : Nat} (hF : OneF P T) {x : Operand} {gx : Bool} {cs : List SV} {c : SV}
    (ho : all[i]? = some ⟨some d, .load T x, ty, pos, aft, gd⟩ := by rfl) (hg : GuardOk (en E) all gd g gn := by first | exact gN | exact gS rfl rfl)
    (hx : lvOf (en E) x = some (gx, .sv (.at_ cs)) := by rfl) (hgx : g = true → gx = true := by first | exact fun _ => rfl | exact id) (hc : cs[0]? = some c := by rfl)
    (h : Reg P r N D B all (i + 1) ops ((i, Ct.p gn [x] [(gx, .sv (.at_ cs))] (some d) (g, .sv c) []) :: tr) (st ((d, (g, .sv c)) :: E) L n) K) :
    Reg P r N D B all i (⟨some d, .load T x, ty, pos, aft, gd⟩ :: ops) tr (st E L n) K :=
  Reg.one rfl (fun h => by
    rw [entLV_true h hgx]
    refine OpC.of_pure1 (x := x) rfl (by simp) fun md n0 cx H ρ w _ _ hvv => ?_
    have e := hvv
    simp only [V, VS] at e
    obtain ⟨b, off, he, hp, hcc⟩ := e
    obtain ⟨v, h1, _, h2⟩ := hcc.get hc
    refine ⟨v, ?_, by simp only [V]; exact h2⟩
    simp only [Nat.add_zero] at h1
    simp [execOp, he, Instr.loadAt, Instr.sureAddr, loadVar, hF.1 w, h1]) ho hg hx (by simp) h

theorem VSC.vals {pr : Nat → Nat} {w : World} {b : Nat} : ∀ {cs : List SV} {off : Nat}, VSC pr w b off cs →
    ∃ vs : List Value, vs.length = cs.length ∧ (∀ (j : Nat) (v : Value), vs[j]? = some v → w.cell? ⟨b, off + j, none⟩ = some v) ∧ ∀ (j : Nat) (c : SV) (v : Value), cs[j]? = some c → vs[j]? = some v → v.oneCell' = true ∧ VS pr w c v
  | [], off, _ => ⟨[], rfl, by simp, by simp⟩
  | c :: cs, off, h => by
    simp only [VSC] at h
    obtain ⟨⟨v, h1, ho, h2⟩, h3⟩ := h
    obtain ⟨vs, k1, k2, k3⟩ := VSC.vals h3
    refine ⟨v :: vs, by simp [k1], fun j u hj => ?_, fun j d u hd hu => ?_⟩
    · cases j with
      | zero => simp at hj; subst hj; simpa using h1
      | succ j => have := k2 j u (by simpa using hj); rwa [show off + 1 + j = off + (j + 1) from by omega] at this
    · cases j with
      | zero => simp at hd hu; subst hd; subst hu; exact ⟨ho, h2⟩
      | succ j => exact k3 j d u (by simpa using hd) (by simpa using hu)

theorem Vs.of_vs {cx : Cx} {w : World} : ∀ {cs : List SV} {vs : List Value}, vs.length = cs.length → (∀ (j : Nat) (c : SV) (v : Value), cs[j]? = some c → vs[j]? = some v → VS cx.pr w c v) → Vs cx w (cs.map LV.sv) vs
  | [], vs, hl, _ => by simp at hl; simp [Vs, hl]
  | c :: cs, [], hl, _ => by simp at hl
  | c :: cs, v :: vs, hl, h => by
    simp only [List.map_cons, Vs]
    exact ⟨v, vs, rfl, by simp only [V]; exact h 0 c v rfl rfl, Vs.of_vs (by simpa using hl) (fun j c v hc hv => h (j + 1) c v (by simpa using hc) (by simpa using hv))⟩

/-- several cells that are not written any more -/
theorem R.loadN {T sz : Nat} (hF : AggF P T sz) {x : Operand} {gx : Bool} {cs : List SV}
    (ho : all[i]? = some ⟨some d, .load T x, ty, pos, aft, gd⟩ := by rfl) (hg : GuardOk (en E) all gd g gn := by first | exact gN | exact gS rfl rfl)
    (hx : lvOf (en E) x = some (gx, .sv (.at_ cs)) := by rfl) (hgx : g = true → gx = true := by first | exact fun _ => rfl | exact id) (hc : cs.length = sz := by rfl)
    (h : Reg P r N D B all (i + 1) ops ((i, Ct.p gn [x] [(gx, .sv (.at_ cs))] (some d) (g, .agg (cs.map LV.sv)) []) :: tr) (st ((d, (g, .agg (cs.map LV.sv))) :: E) L n) K) :
    Reg P r N D B all i (⟨some d, .load T x, ty, pos, aft, gd⟩ :: ops) tr (st E L n) K :=
  Reg.one rfl (fun h => by
    rw [entLV_true h hgx]
    refine OpC.of_pure1 (x := x) rfl (by simp) fun md n0 cx H ρ w _ _ hvv => ?_
    have e := hvv
    simp only [V, VS] at e
    obtain ⟨b, off, he, hp, hcc⟩ := e
    obtain ⟨vs, k1, k2, k3⟩ := hcc.vals
    refine ⟨.agg vs.toArray, ?_, by simp only [V]; exact ⟨vs, rfl, Vs.of_vs k1 (fun j c v h1 h2 => (k3 j c v h1 h2).2)⟩⟩
    have hl : (loadCells ⟨b, off, none⟩ vs.length).run P w = .ok vs.toArray w := run_loadCells_list (P := P) w ⟨b, off, none⟩ vs (fun j v hv => by
      have hadd : (⟨b, off, none⟩ : Addr).add j = ⟨b, off + j, none⟩ := by unfold Addr.add; split <;> simp_all
      rw [hadd]; exact k2 j v hv)
    rw [k1, hc] at hl
    simp [execOp, he, Instr.loadAt, Instr.sureAddr, loadVar, hF.1 w, hF.2 w, hl]) ho hg hx (by simp) h

/-- a part of an aggregate -/
theorem R.fieldV {T f fo : Nat} {x : Operand} {gx : Bool} {cs : List LV} {c : LV} (hF : ∀ (vs : Array Value) (v : Value) (w : World), vs[fo]? = some v → (Instr.field T (.agg vs) f).run P w = .ok v w)
    (ho : all[i]? = some ⟨some d, .field T x f, ty, pos, aft, gd⟩ := by rfl) (hg : GuardOk (en E) all gd g gn := by first | exact gN | exact gS rfl rfl)
    (hx : lvOf (en E) x = some (gx, .agg cs) := by rfl) (hgx : g = true → gx = true := by first | exact fun _ => rfl | exact id) (hc : cs[fo]? = some c := by rfl)
    (h : Reg P r N D B all (i + 1) ops ((i, Ct.p gn [x] [(gx, .agg cs)] (some d) (g, c) []) :: tr) (st ((d, (g, c)) :: E) L n) K) :
    Reg P r N D B all i (⟨some d, .field T x f, ty, pos, aft, gd⟩ :: ops) tr (st E L n) K :=
  Reg.one rfl (fun h => by
    rw [entLV_true h hgx]
    refine OpC.of_pure1 (x := x) rfl (by simp) fun md n0 cx H ρ w _ _ hvv => ?_
    have e := hvv
    simp only [V] at e
    obtain ⟨vs, he, h2⟩ := e
    obtain ⟨v, h3, h4⟩ := h2.get hc
    exact ⟨v, by simp [execOp, he, hF vs.toArray v w (by simpa using h3)], h4⟩) ho hg hx (by simp) h

/-! lengths, slices -/

def SliceT (P : Program) (T : Nat) : Prop := ∃ e, ∀ w, (underlying T).run P w = .ok (.slice e) w

theorem R.len {T : Nat} (hF : SliceT P T) {x : Operand} {gx : Bool} {sz : Nat} {xs : List (List SV)}
    (ho : all[i]? = some ⟨some d, .call { callee := .builtin .len, args := #[x], argTypes := #[T] }, ty, pos, aft, gd⟩ := by rfl) (hg : GuardOk (en E) all gd g gn := by first | exact gN | exact gS rfl rfl)
    (hx : lvOf (en E) x = some (gx, .sv (.sl sz xs)) := by rfl) (hgx : g = true → gx = true := by first | exact fun _ => rfl | exact id)
    (h : Reg P r N D B all (i + 1) ops ((i, Ct.p gn [x] [(gx, .sv (.sl sz xs))] (some d) (g, .i xs.length) []) :: tr) (st ((d, (g, .i xs.length)) :: E) L n) K) :
    Reg P r N D B all i (⟨some d, .call { callee := .builtin .len, args := #[x], argTypes := #[T] }, ty, pos, aft, gd⟩ :: ops) tr (st E L n) K :=
  Reg.one rfl (fun h => by
    rw [entLV_true h hgx]
    refine OpC.of_pure1 (x := x) rfl (by simp) fun md n0 cx H ρ w _ _ hvv => ?_
    have e := hvv
    obtain ⟨el, hT⟩ := hF
    simp only [V, VS] at e
    refine ⟨.int .i64 xs.length, ?_, V.mkval⟩
    rcases e with ⟨e | ⟨a, cap, e, _⟩, rfl⟩ | ⟨b, off, cap, e, _⟩ <;>
      simp [execOp, resolve, invoke, builtin, Builtin.len_, e, hT w, goInt]) ho hg hx (by simp) h
theorem R.lenV {T : Nat} {a : Value} {m : Nat} (hF : ∀ w, (Builtin.len_ #[T] ty #[a]).run P w = .ok (.int .i64 m) w) {x : Operand} {gx : Bool}
    (ho : all[i]? = some ⟨some d, .call { callee := .builtin .len, args := #[x], argTypes := #[T] }, ty, pos, aft, gd⟩ := by rfl) (hg : GuardOk (en E) all gd g gn := by first | exact gN | exact gS rfl rfl)
    (hx : lvOf (en E) x = some (gx, .v a) := by rfl) (hgx : g = true → gx = true := by first | exact fun _ => rfl | exact id)
    (h : Reg P r N D B all (i + 1) ops ((i, Ct.p gn [x] [(gx, .v a)] (some d) (g, .i m) []) :: tr) (st ((d, (g, .i m)) :: E) L n) K) :
    Reg P r N D B all i (⟨some d, .call { callee := .builtin .len, args := #[x], argTypes := #[T] }, ty, pos, aft, gd⟩ :: ops) tr (st E L n) K :=
  Reg.one rfl (fun h => by
    rw [entLV_true h hgx]
    refine OpC.of_pure1 (x := x) rfl (by simp) fun md n0 cx H ρ w _ _ hvv => ?_
    refine ⟨.int .i64 m, ?_, V.mkval⟩
    simp [execOp, resolve, invoke, builtin, hvv.val, hF w]) ho hg hx (by simp) h
theorem run_lenS {T ty : Nat} {s : ByteArray} (hT : ∀ w, (underlying T).run P w = .ok .string w) : ∀ w, (Builtin.len_ #[T] ty #[.string s]).run P w = .ok (.int .i64 s.size) w := by
  intro w; simp [Builtin.len_, hT w, goInt]
theorem run_lenNil {T ty : Nat} (hT : SliceT P T) : ∀ w, (Builtin.len_ #[T] ty #[.slice none 0 0]).run P w = .ok (.int .i64 (0 : Nat)) w := by
  intro w; obtain ⟨e, h⟩ := hT; simp [Builtin.len_, h w, goInt]

theorem VSR.drop {pr : Nat → Nat} {w : World} {b sz : Nat} : ∀ (k : Nat) {xs : List (List SV)} {off : Nat}, VSR pr w b off sz xs → VSR pr w b (off + k * sz) sz (xs.drop k)
  | 0, xs, off, h => by simpa using h
  | k + 1, [], off, h => by simp [VSR]
  | k + 1, c :: cs, off, h => by
    simp only [VSR] at h
    simp only [List.drop_succ_cons]
    have := VSR.drop k h.2.2
    rwa [show off + sz + k * sz = off + (k + 1) * sz from by rw [Nat.add_mul]; omega] at this
theorem VSR.take {pr : Nat → Nat} {w : World} {b sz : Nat} : ∀ (k : Nat) {xs : List (List SV)} {off : Nat}, VSR pr w b off sz xs → VSR pr w b off sz (xs.take k)
  | 0, xs, off, h => by simp [VSR]
  | k + 1, [], off, h => by simp [VSR]
  | k + 1, c :: cs, off, h => by
    simp only [VSR] at h
    simp only [List.take_succ_cons, VSR]
    exact ⟨h.1, h.2.1, VSR.take k h.2.2⟩

/-- what slicing x from lo on, up to hi, comes to -/
def SliceF (P : Program) (T sz : Nat) : Prop := ∃ e, (∀ w, (underlying T).run P w = .ok (.slice e) w) ∧ ∀ w, (sizeOf e).run P w = .ok sz w

theorem run_sliceSl {T sz : Nat} (hF : SliceF P T sz) {pr : Nat → Nat} {w : World} {xs : List (List SV)} {x : Value} (hx : VS pr w (.sl sz xs) x) (lo hi : Option Value) (a b : Nat)
    (hlo : (lo = none ∧ a = 0) ∨ ∃ k, lo = some (.int k a)) (hhi : (hi = none ∧ b = xs.length) ∨ ∃ k, hi = some (.int k b)) (hab : a ≤ b) (hb : b ≤ xs.length) :
    ∃ v, (Instr.sliceAt T x lo hi none).run P w = .ok v w ∧ VS pr w (.sl sz ((xs.take b).drop a)) v := by
  obtain ⟨e, hT, hz⟩ := hF
  have hlen : ((xs.take b).drop a).length = b - a := by simp; omega
  have blo : ∀ (c : BoundsCode) w, (match lo with | some v => Instr.sliceBound v b c | none => pure 0 : Sem Nat).run P w = .ok a w := by
    intro c w
    rcases hlo with ⟨rfl, rfl⟩ | ⟨k, rfl⟩
    · rfl
    · simp [Instr.sliceBound, asIntOf]; omega
  simp only [VS] at hx
  rcases hx with ⟨rfl | ⟨ad, cap, rfl, hcm⟩, rfl⟩ | ⟨bl, off, cap, rfl, hle, hml, hpr, hr⟩
  · have hb0 : b = 0 := by simpa using hb
    subst hb0
    have ha0 : a = 0 := by omega
    subst ha0
    refine ⟨.slice none 0 0, ?_, by simp [VS, emptySl]⟩
    rcases hlo with ⟨rfl, _⟩ | ⟨k, rfl⟩ <;> rcases hhi with ⟨rfl, _⟩ | ⟨k', rfl⟩ <;>
      simp [Instr.sliceAt, Instr.slice, hT w, Instr.sliceBounds, Instr.sliceBound, asIntOf, hz w]
  · have hb0 : b = 0 := by simpa using hb
    subst hb0
    have ha0 : a = 0 := by omega
    subst ha0
    refine ⟨.slice (if cap = 0 then some ad else some (ad.add (0 * sz))) 0 cap, ?_, ?_⟩
    · rcases hlo with ⟨rfl, _⟩ | ⟨k, rfl⟩ <;> rcases hhi with ⟨rfl, _⟩ | ⟨k', rfl⟩ <;>
        simp [Instr.sliceAt, Instr.slice, hT w, Instr.sliceBounds, Instr.sliceBound, asIntOf, hz w]
    · simp only [VS]
      left
      refine ⟨.inr ?_, by simp⟩
      split
      · exact ⟨_, _, rfl, hcm⟩
      · exact ⟨_, _, rfl, hcm⟩
  · have hbc : b ≤ cap := by omega
    refine ⟨.slice (if cap = a then some ⟨bl, off, none⟩ else some ((⟨bl, off, none⟩ : Addr).add (a * sz))) (b - a) (cap - a), ?_, ?_⟩
    · rcases hlo with ⟨rfl, rfl⟩ | ⟨k, rfl⟩ <;> rcases hhi with ⟨rfl, rfl⟩ | ⟨k', rfl⟩ <;>
        simp [Instr.sliceAt, Instr.slice, hT w, Instr.sliceBounds, Instr.sliceBound, asIntOf, hz w, hbc, hab]
    · simp only [VS]
      by_cases he : (xs.take b).drop a = []
      · rw [he]
        have hba : b - a = 0 := by rw [← hlen, he]; rfl
        right
        by_cases hca : cap = a
        · rw [if_pos hca, hba]
          exact ⟨bl, off, cap - a, rfl, Nat.zero_le _, by omega, by simp; omega, by simp [VSR]⟩
        · rw [if_neg hca, hba]
          have hb1 : b ≤ xs.length := hb
          have : a * sz ≤ xs.length * sz := Nat.mul_le_mul_right _ (by omega)
          refine ⟨bl, off + a * sz, cap - a, ?_, Nat.zero_le _, by omega, by simp; omega, by simp [VSR]⟩
          simp [Addr.add]
      · right
        have hlt : a < b := by
          rcases Nat.lt_or_ge a b with h | h
          · exact h
          · exfalso; apply he; apply List.eq_nil_of_length_eq_zero; rw [hlen]; omega
        have hca : cap ≠ a := by omega
        rw [if_neg hca]
        have : (b - a) * sz + a * sz ≤ xs.length * sz := by rw [← Nat.add_mul]; exact Nat.mul_le_mul_right _ (by omega)
        refine ⟨bl, off + a * sz, cap - a, ?_, by rw [hlen]; omega, by omega, by rw [hlen]; omega, VSR.drop a (VSR.take b hr)⟩
        rw [hlen]
        have hadd : (⟨bl, off, none⟩ : Addr).add (a * sz) = ⟨bl, off + a * sz, none⟩ := by unfold Addr.add; split <;> simp_all
        rw [hadd]

theorem R.sliceLo {T sz : Nat} (hF : SliceF P T sz) {x y : Operand} {gx gy : Bool} {xs : List (List SV)} {k : IntKind} {a : Int}
    (ho : all[i]? = some ⟨some d, .slice T x (some y) none none, ty, pos, aft, gd⟩ := by rfl) (hg : GuardOk (en E) all gd g gn := by first | exact gN | exact gS rfl rfl)
    (hx : lvOf (en E) x = some (gx, .sv (.sl sz xs)) := by rfl) (hy : lvOf (en E) y = some (gy, .v (.int k a)) := by rfl)
    (hgx : g = true → gx = true := by first | exact fun _ => rfl | exact id) (hgy : g = true → gy = true := by first | exact fun _ => rfl | exact id)
    (ha : g = true → 0 ≤ a ∧ a ≤ xs.length)
    (h : Reg P r N D B all (i + 1) ops ((i, Ct.p gn [x, y] [(gx, .sv (.sl sz xs)), (gy, .v (.int k a))] (some d) (g, .sv (.sl sz (xs.drop a.toNat))) []) :: tr) (st ((d, (g, .sv (.sl sz (xs.drop a.toNat)))) :: E) L n) K) :
    Reg P r N D B all i (⟨some d, .slice T x (some y) none none, ty, pos, aft, gd⟩ :: ops) tr (st E L n) K :=
  Reg.two rfl (fun h => by
    rw [entLV_true h hgx, entLV_true h hgy]
    refine OpC.of_pure2 (x := x) (y := y) rfl (by simp) fun md n0 cx H ρ w _ _ v1 v2 => ?_
    obtain ⟨h0, h1⟩ := ha h
    obtain ⟨m, rfl⟩ := Int.eq_ofNat_of_zero_le h0
    simp only [V] at v1
    obtain ⟨v, hr, hv⟩ := run_sliceSl hF v1 (some (.int k m)) none m xs.length (.inr ⟨k, rfl⟩) (.inl ⟨rfl, rfl⟩) (by omega) (Nat.le_refl _)
    refine ⟨v, ?_, by simp only [V]; simpa using hv⟩
    simp [execOp, v2.val, hr]) ho hg hx hy (by simp) h
theorem R.sliceHi {T sz : Nat} (hF : SliceF P T sz) {x y : Operand} {gx gy : Bool} {xs : List (List SV)} {k : IntKind} {a : Int}
    (ho : all[i]? = some ⟨some d, .slice T x none (some y) none, ty, pos, aft, gd⟩ := by rfl) (hg : GuardOk (en E) all gd g gn := by first | exact gN | exact gS rfl rfl)
    (hx : lvOf (en E) x = some (gx, .sv (.sl sz xs)) := by rfl) (hy : lvOf (en E) y = some (gy, .v (.int k a)) := by rfl)
    (hgx : g = true → gx = true := by first | exact fun _ => rfl | exact id) (hgy : g = true → gy = true := by first | exact fun _ => rfl | exact id)
    (ha : g = true → 0 ≤ a ∧ a ≤ xs.length)
    (h : Reg P r N D B all (i + 1) ops ((i, Ct.p gn [x, y] [(gx, .sv (.sl sz xs)), (gy, .v (.int k a))] (some d) (g, .sv (.sl sz (xs.take a.toNat))) []) :: tr) (st ((d, (g, .sv (.sl sz (xs.take a.toNat)))) :: E) L n) K) :
    Reg P r N D B all i (⟨some d, .slice T x none (some y) none, ty, pos, aft, gd⟩ :: ops) tr (st E L n) K :=
  Reg.two rfl (fun h => by
    rw [entLV_true h hgx, entLV_true h hgy]
    refine OpC.of_pure2 (x := x) (y := y) rfl (by simp) fun md n0 cx H ρ w _ _ v1 v2 => ?_
    obtain ⟨h0, h1⟩ := ha h
    obtain ⟨m, rfl⟩ := Int.eq_ofNat_of_zero_le h0
    simp only [V] at v1
    obtain ⟨v, hr, hv⟩ := run_sliceSl hF v1 none (some (.int k m)) 0 m (.inl ⟨rfl, rfl⟩) (.inr ⟨k, rfl⟩) (by omega) (by omega)
    refine ⟨v, ?_, by simp only [V]; simpa using hv⟩
    simp [execOp, v2.val, hr]) ho hg hx hy (by simp) h
theorem R.sliceLoHi {T sz : Nat} (hF : SliceF P T sz) {x y z : Operand} {gx gy gz : Bool} {xs : List (List SV)} {k k' : IntKind} {a b : Int}
    (ho : all[i]? = some ⟨some d, .slice T x (some y) (some z) none, ty, pos, aft, gd⟩ := by rfl) (hg : GuardOk (en E) all gd g gn := by first | exact gN | exact gS rfl rfl)
    (hx : lvOf (en E) x = some (gx, .sv (.sl sz xs)) := by rfl) (hy : lvOf (en E) y = some (gy, .v (.int k a)) := by rfl) (hz : lvOf (en E) z = some (gz, .v (.int k' b)) := by rfl)
    (hgx : g = true → gx = true := by first | exact fun _ => rfl | exact id) (hgy : g = true → gy = true := by first | exact fun _ => rfl | exact id) (hgz : g = true → gz = true := by first | exact fun _ => rfl | exact id)
    (ha : g = true → 0 ≤ a ∧ a ≤ b ∧ b ≤ xs.length)
    (h : Reg P r N D B all (i + 1) ops ((i, Ct.p gn [x, y, z] [(gx, .sv (.sl sz xs)), (gy, .v (.int k a)), (gz, .v (.int k' b))] (some d) (g, .sv (.sl sz ((xs.take b.toNat).drop a.toNat))) []) :: tr) (st ((d, (g, .sv (.sl sz ((xs.take b.toNat).drop a.toNat)))) :: E) L n) K) :
    Reg P r N D B all i (⟨some d, .slice T x (some y) (some z) none, ty, pos, aft, gd⟩ :: ops) tr (st E L n) K :=
  Reg.three rfl (fun h => by
    rw [entLV_true h hgx, entLV_true h hgy, entLV_true h hgz]
    refine OpC.of_pure3 (x := x) (y := y) (z := z) rfl (by simp) fun md n0 cx H ρ w _ _ v1 v2 v3 => ?_
    obtain ⟨h0, h1, h2⟩ := ha h
    obtain ⟨m, rfl⟩ := Int.eq_ofNat_of_zero_le h0
    obtain ⟨m', rfl⟩ := Int.eq_ofNat_of_zero_le (show 0 ≤ b by omega)
    simp only [V] at v1
    obtain ⟨v, hr, hv⟩ := run_sliceSl hF v1 (some (.int k m)) (some (.int k' m')) m m' (.inr ⟨k, rfl⟩) (.inr ⟨k', rfl⟩) (by omega) (by omega)
    refine ⟨v, ?_, by simp only [V]; simpa using hv⟩
    simp [execOp, v2.val, v3.val, hr]) ho hg hx hy hz (by simp) h
end

end Go.Proofs.YtnamkhifmankmaaDoor

/- The operations that read, make or write objects of one's own; calls; the ends of a function. -/
namespace Go.Proofs.YtnamkhifmankmaaDoor

/-! ### what a step does to memory -/

/-- the cells of a value -/
def CellsOf (l : LV) (cs : List LV) : Prop := ∀ (cx : Cx) (w : World) (v : Value), V cx w l v → ∃ vs : List Value, v.cells = vs.toArray ∧ Vs cx w cs vs ∧ ∀ u ∈ vs, u.oneCell' = true

def LV.one : LV → Bool
  | .sv (.val v) => v.oneCell'
  | .sv _ => true
  | .agg _ => false
  | .tup _ => false
  | _ => true
theorem LV.one_spec {l : LV} (h : l.one = true) {cx : Cx} {w : World} {v : Value} (hv : V cx w l v) : v.oneCell' = true := by
  cases l with
  | sv s =>
    cases s with
    | val x => simp only [V, VS] at hv; subst hv; exact h
    | sl sz xs => simp only [V, VS] at hv; rcases hv with ⟨rfl | ⟨_, _, rfl, _⟩, _⟩ | ⟨_, _, _, rfl, _⟩ <;> rfl
    | at_ cs => simp only [V, VS] at hv; obtain ⟨_, _, rfl, _⟩ := hv; rfl
  | agg cs => cases h
  | tup cs => cases h
  | ptr o off => simp only [V] at hv; obtain ⟨_, _, _, rfl⟩ := hv; rfl
  | ref o => simp only [V] at hv; obtain ⟨_, rfl, h3⟩ := hv; cases hl : cx.loc o <;> simp_all [isRef, Value.oneCell']
  | fn f p q => simp only [V] at hv; obtain ⟨_, _, rfl, _⟩ := hv; rfl
  | yld o => simp only [V] at hv; obtain ⟨_, _, _, rfl⟩ := hv; rfl
  | sub o off len cap => simp only [V] at hv; obtain ⟨_, _, _, rfl⟩ := hv; rfl
  | pv p => simp only [V] at hv; exact hv.2
theorem cells_one {v : Value} (h : v.oneCell' = true) : v.cells = #[v] := by cases v <;> first | rfl | cases h
theorem CellsOf.one {l : LV} (h : l.one = true) : CellsOf l [l] := fun cx w v hv =>
  ⟨[v], by rw [cells_one (LV.one_spec h hv)], by simp only [Vs]; exact ⟨v, [], rfl, hv, rfl⟩, by simpa using LV.one_spec h hv⟩
theorem Vs.ones {cx : Cx} {w : World} : ∀ {cs : List LV} {vs : List Value}, (cs.all LV.one) = true → Vs cx w cs vs → ∀ u ∈ vs, u.oneCell' = true
  | [], vs, _, h => by simp [Vs] at h; simp [h]
  | c :: cs, vs, hc, h => by
    simp only [Vs] at h
    obtain ⟨y, r, rfl, h1, h2⟩ := h
    simp only [List.all_cons, Bool.and_eq_true] at hc
    intro u hu
    rcases List.mem_cons.1 hu with rfl | hu
    · exact LV.one_spec hc.1 h1
    · exact Vs.ones hc.2 h2 u hu
theorem CellsOf.agg {cs : List LV} (h : cs.all LV.one = true) : CellsOf (.agg cs) cs := fun cx w v hv => by
  simp only [V] at hv
  obtain ⟨vs, rfl, h2⟩ := hv
  exact ⟨vs, rfl, h2, Vs.ones h h2⟩

/-- a new block, a new object -/
theorem Tr.new {md : Nat → Prop} {n0 : Nat} {H : Hp} {cx : Cx} {w w0 : World} (h : HOk md n0 cx H w) {ob : Obj} {o : Nat} (ho : ¬ cx.A o) {lv : Value} {x : LO} (hw : w0.heap = w.heap ∧ w0.os = w.os ∧ w0.tape = w.tape ∧ w0.output = w.output)
    (hb : bk lv = some w.heap.size)
    (hx : ∀ cx' : Cx, cx'.loc o = lv → cx'.A o → CxLe cx cx' → cx'.pr = cx.pr → ObjOk cx' (w0.alloc ob) o x) (hbx : x.isBx = false := by rfl) :
    ∃ cx', Tr cx w (hp []) cx' (w0.alloc ob) (hp [(o, x)]) (· ∈ [o]) ∧ cx'.A o ∧ cx'.loc o = lv ∧ cx'.pr = cx.pr := by
  let cx' : Cx := ⟨cx.pr, fun k => cx.A k ∨ k ∈ [o], fun k => if k = o then lv else cx.loc k, cx.inn⟩
  have hle : CxLe cx cx' := fun k hk => ⟨.inl hk, by
    show (if k = o then lv else cx.loc k) = _
    rw [if_neg (by rintro rfl; exact ho hk)]⟩
  have hlo : cx'.loc o = lv := by show (if o = o then lv else _) = _; simp
  have hAo : cx'.A o := .inr (by simp)
  have hsz : (w0.alloc ob).heap.size = w.heap.size + 1 := by simp [hw.1]
  have hold : ∀ b, b < w.heap.size → (w0.alloc ob).heap[b]? = w.heap[b]? := fun b hb' => by
    rw [heap_alloc_old w0 ob (by rw [hw.1]; exact hb'), hw.1]
  have hext : Ext cx.pr w cx'.pr (w0.alloc ob) := fun b off hb' => ⟨hb', by
    have := h.lim b (by omega)
    simp only [World.cell?, hold b this]⟩
  refine ⟨cx', ⟨hle, fun k => Iff.rfl, ⟨hw.2.1, hw.2.2.1, hw.2.2.2, by omega, fun b hb' _ => hold b hb', fun _ _ _ => rfl, hext⟩, ?_, fun _ _ _ => rfl⟩, hAo, hlo, rfl⟩
  have one : ∀ k y, hp [(o, x)] k = some y → k = o ∧ y = x := by
    intro k y hy
    simp only [hp, List.lookup_cons] at hy
    split at hy
    · rename_i hh; simp at hh; cases hy; exact ⟨hh, rfl⟩
    · simp at hy
  refine ⟨fun k y hy => ?_, fun k y b hy hb' => ?_, fun k k' y y' b hne hy hy' _ => ?_, fun b hb' => ?_⟩
  · obtain ⟨rfl, rfl⟩ := one k y hy
    exact ⟨hAo, hx cx' hlo hAo hle rfl⟩
  · obtain ⟨rfl, rfl⟩ := one k y hy
    rw [Cx.has_of hbx, hlo, hb] at hb'
    cases hb'
    refine ⟨?_, by omega, .inl (Nat.le_refl _)⟩
    rcases Nat.eq_zero_or_pos (cx.pr w.heap.size) with h0 | h0
    · exact h0
    · have := h.lim _ h0; omega
  · obtain ⟨rfl, rfl⟩ := one k y hy
    obtain ⟨rfl, rfl⟩ := one k' y' hy'
    exact absurd rfl hne
  · have := h.lim b hb'; omega

/-- an object's block is written -/
theorem Tr.set {md : Nat → Prop} {n0 : Nat} {H : Hp} {cx : Cx} {w w' : World} (h : HOk md n0 cx H w) {o : Nat} {x x' : LO} (ho : H o = some x) {b : Nat} (hb : bk (cx.loc o) = some b)
    (hw : w'.os = w.os ∧ w'.tape = w.tape ∧ w'.output = w.output) (hsz : w'.heap.size = w.heap.size) (hsame : ∀ k, k ≠ b → w'.heap[k]? = w.heap[k]?) (hx : Ext cx.pr w cx.pr w' → ObjOk cx w' o x') (hbx : x.isBx = false := by rfl) (hbx' : x'.isBx = false := by rfl) :
    Tr cx w (hp [(o, x)]) cx w' (hp [(o, x')]) (· ∈ ([] : List Nat)) := by
  obtain ⟨hpr, hlt, hmd⟩ := h.own o x b ho (.inl hb)
  have one : ∀ (z : LO) k y, hp [(o, z)] k = some y → k = o ∧ y = z := by
    intro z k y hy
    simp only [hp, List.lookup_cons] at hy
    split at hy
    · rename_i hh; simp at hh; cases hy; exact ⟨hh, rfl⟩
    · simp at hy
  have hblk : blks cx (hp [(o, x)]) b := ⟨o, x, by simp, .inl hb⟩
  have hext : Ext cx.pr w cx.pr w' := fun k off hk => ⟨hk, by
    have hkb : k ≠ b := by rintro rfl; omega
    simp only [World.cell?, hsame k hkb]⟩
  refine ⟨CxLe.refl _, fun k => by simp, ⟨hw.1, hw.2.1, hw.2.2, by omega, fun k _ hk => hsame k (by rintro rfl; exact hk hblk), fun _ _ _ => rfl, hext⟩, ?_, fun _ _ _ => rfl⟩
  refine ⟨fun k y hy => ?_, fun k y c hy hc => ?_, fun k k' y y' c hne hy hy' _ => ?_, fun c hc => ?_⟩
  · obtain ⟨rfl, rfl⟩ := one _ k y hy
    exact ⟨(h.ok _ _ ho).1, hx hext⟩
  · obtain ⟨rfl, rfl⟩ := one _ k y hy
    rw [Cx.has_of hbx', hb] at hc; cases hc
    exact ⟨hpr, by omega, .inr hblk⟩
  · obtain ⟨rfl, rfl⟩ := one _ k y hy
    obtain ⟨rfl, rfl⟩ := one _ k' y' hy'
    exact absurd rfl hne
  · have := h.lim c hc; omega

section
variable {P : Program} {r : Option Nat} {N : Nat} {D : List Nat} {B : Base} {all : Array Oper} {K : List (Nat × Ct) → St → Prop}
variable {i : Nat} {ops : List Oper} {tr : List (Nat × Ct)} {E : List (Nat × Ent)} {L : List (Nat × LO)} {n : Nat} {g : Bool} {gn : List (Nat × Ent)}
variable {d ty : Nat} {pos : String} {aft : Array Edge} {gd : Option (Nat × Bool)}

theorem upd_new (L : List (Nat × LO)) (o : Nat) (x : LO) : (hp L).upd (hp []) (hp [(o, x)]) = hp ((o, x) :: L) := by
  funext k
  simp only [Hp.upd, hp, List.lookup_cons, List.lookup_nil]
  cases h : (k == o) <;> simp
theorem upd_set (L : List (Nat × LO)) (o : Nat) (x x' : LO) : (hp L).upd (hp [(o, x)]) (hp [(o, x')]) = hp ((o, x') :: L) := by
  funext k
  simp only [Hp.upd, hp, List.lookup_cons, List.lookup_nil]
  cases h : (k == o) <;> simp

/-- a new object -/
theorem Reg.new {o : Oper} {es : List Ent} {out : LV} {rd : List (Nat × LO)} {x : LO}
    (ho : all[i]? = some o) (hg : GuardOk (en E) all o.guard true gn) (hargs : Opnds (en E) o.op.operands.toList es) (hrd : ∀ k x, hp rd k = some x → hp L k = some x)
    (hop : OpC P r o (es.map entLV) rd [] out [(n, x)] [n])
    (h : Reg P r N D B all (i + 1) ops ((i, ⟨gn ++ needOf o.op.operands.toList es, o.dst, (true, out), rd, [], [(n, x)], [n]⟩) :: tr) (st (putL o.dst (true, out) E) ((n, x) :: L) (n + 1)) K) :
    Reg P r N D B all i (o :: ops) tr (st E L n) K := by
  refine Reg.gen (m := 1) (Hi := []) (Ho := [(n, x)]) ho hg hargs hrd (by simp) (by simpa using hop) ?_
  have e : updL L [] [(n, x)] = (n, x) :: L := by simp [updL]
  rw [e]
  exact h

/-- an object is written -/
theorem Reg.set {o : Oper} {es : List Ent} {out : LV} {rd : List (Nat × LO)} {q : Nat} {x x' : LO}
    (ho : all[i]? = some o) (hg : GuardOk (en E) all o.guard true gn) (hargs : Opnds (en E) o.op.operands.toList es) (hrd : ∀ k x, hp rd k = some x → hp L k = some x) (hq : hp L q = some x)
    (hop : OpC P r o (es.map entLV) rd [(q, x)] out [(q, x')] [])
    (h : Reg P r N D B all (i + 1) ops ((i, ⟨gn ++ needOf o.op.operands.toList es, o.dst, (true, out), rd, [(q, x)], [(q, x')], []⟩) :: tr) (st (putL o.dst (true, out) E) ((q, x') :: L) n) K) :
    Reg P r N D B all i (o :: ops) tr (st E L n) K := by
  refine Reg.cons (fun hN => CtOk.of_op ho hN.dst hg (fun _ => hop) hargs (.inl rfl)) ⟨fun p hp' => ?_, hrd, fun k y hy => ?_, by simp⟩ ?_
  · rcases List.mem_append.1 hp' with hp' | hp'
    · exact hg.need p hp'
    · exact hargs.need p hp'
  · simp only [hp, List.lookup_cons] at hy
    split at hy
    · rename_i hh; simp at hh; cases hy; subst hh; exact hq
    · simp at hy
  · have : (Ct.app ⟨gn ++ needOf o.op.operands.toList es, o.dst, (true, out), rd, [(q, x)], [(q, x')], []⟩ (st E L n)) = st (putL o.dst (true, out) E) ((q, x') :: L) n := by
      simp only [Ct.app, putE_putL, upd_set]
      congr 1
      funext o; simp
    rw [this]; exact h

/-! ### boxes -/

def ZeroF (P : Program) (T : Nat) (z : Value) : Prop := ∀ w, (zeroValue T).run P w = .ok z w

theorem alloc_box {T : Nat} {md : Nat → Prop} {n0 : Nat} {H : Hp} {cx : Cx} {w w0 : World} (h : HOk md n0 cx H w) {o : Nat} (ho : ¬ cx.A o) (hw : w0.heap = w.heap ∧ w0.os = w.os ∧ w0.tape = w.tape ∧ w0.output = w.output)
    {cs : List LV} {vs : List Value} (hv : Vs cx w cs vs) :
    ∃ cx', Tr cx w (hp []) cx' (w0.alloc (.cells vs.toArray T)) (hp [(o, .box T cs)]) (· ∈ [o]) ∧ V cx' (w0.alloc (.cells vs.toArray T)) (.ptr o 0) (.pointer (some ⟨w.heap.size, 0, none⟩)) := by
  have hnew : (w0.alloc (.cells vs.toArray T)).heap[w.heap.size]? = some (.cells vs.toArray T) := by rw [← hw.1]; exact heap_alloc_new w0 _
  obtain ⟨cx', h1, h2, h3, h4⟩ := Tr.new (w0 := w0) h (ob := .cells vs.toArray T) (o := o) ho (lv := .pointer (some ⟨w.heap.size, 0, none⟩)) (x := .box T cs) hw rfl (fun cx' e1 e2 e3 e4 => by
    refine ⟨w.heap.size, vs, e1, hnew, Vs.mono e3 (fun b off hb => ?_) cs vs hv⟩
    rw [e4]
    refine ⟨hb, ?_⟩
    have := h.lim b (by omega)
    simp only [World.cell?, heap_alloc_old w0 (.cells vs.toArray T) (by rw [hw.1]; exact this), hw.1])
  refine ⟨cx', h1, ?_⟩
  simp only [V]
  exact ⟨h2, w.heap.size, by rw [h3]; rfl, rfl⟩

theorem R.box {T : Nat} {x : Operand} {lv : LV} {cs : List LV}
    (ho : all[i]? = some ⟨some d, .box T x, ty, pos, aft, none⟩ := by rfl)
    (hx : lvOf (en E) x = some (true, lv) := by rfl) (hcs : CellsOf lv cs := by first | exact CellsOf.one rfl | exact CellsOf.agg rfl)
    (h : Reg P r N D B all (i + 1) ops ((i, ⟨needOf [x] [(true, lv)], some d, (true, .ptr n 0), [], [], [(n, .box T cs)], [n]⟩) :: tr) (st ((d, (true, .ptr n 0)) :: E) ((n, .box T cs) :: L) (n + 1)) K) :
    Reg P r N D B all i (⟨some d, .box T x, ty, pos, aft, none⟩ :: ops) tr (st E L n) K :=
  Reg.new (es := [(true, lv)]) (rd := []) ho gN ⟨_, _, rfl, hx, rfl⟩ (by simp) (OpC.of_run (by simp) (by simp) fun md n0 cx H ρ w hok _ _ hnew hv => by
    have hv := Vs.one hv
    simp only [entLV] at hv
    obtain ⟨vs, e1, e2, _⟩ := hcs cx w _ hv
    obtain ⟨cx', t, hv'⟩ := alloc_box (T := T) (w0 := w) hok (hnew n (by simp)) ⟨rfl, rfl, rfl, rfl⟩ e2
    refine ⟨_, _, _, cx', ?_, .inl rfl, t, hv'⟩
    simp only [execOp, Instr.box, newVar, newRow, Sem.run_bind, Sem.run_pure, e1]
    rfl) h
theorem R.alloc {T : Nat} {z : Value} (hz : ZeroF P T z) {cs : List LV} (hcs : CellsOf (cLV z) cs := by first | exact CellsOf.one rfl | exact CellsOf.agg rfl)
    (ho : all[i]? = some ⟨some d, .alloc T, ty, pos, aft, none⟩ := by rfl)
    (h : Reg P r N D B all (i + 1) ops ((i, ⟨[], some d, (true, .ptr n 0), [], [], [(n, .box T cs)], [n]⟩) :: tr) (st ((d, (true, .ptr n 0)) :: E) ((n, .box T cs) :: L) (n + 1)) K) :
    Reg P r N D B all i (⟨some d, .alloc T, ty, pos, aft, none⟩ :: ops) tr (st E L n) K :=
  Reg.new (es := []) (rd := []) ho gN rfl (by simp) (OpC.of_run (by simp) (by simp) fun md n0 cx H ρ w hok _ _ hnew hv => by
    obtain ⟨vs, e1, e2, _⟩ := hcs cx w _ (V.cLV cx w z)
    obtain ⟨cx', t, hv'⟩ := alloc_box (T := T) (w0 := w) hok (hnew n (by simp)) ⟨rfl, rfl, rfl, rfl⟩ e2
    refine ⟨_, _, _, cx', ?_, .inl rfl, t, hv'⟩
    simp only [execOp, Instr.alloc, newVar, newRow, Sem.run_bind, Sem.run_pure, hz w, Result.andThen_ok, e1]
    rfl) h

/-- a cell of a box -/
theorem R.loadB {T TB : Nat} (hF : OneF P T) {x : Operand} {gx : Bool} {o off : Nat} {cs : List LV} {c : LV}
    (ho : all[i]? = some ⟨some d, .load T x, ty, pos, aft, gd⟩ := by rfl) (hg : GuardOk (en E) all gd g gn := by first | exact gN | exact gS rfl rfl)
    (hx : lvOf (en E) x = some (gx, .ptr o off) := by rfl) (hgx : g = true → gx = true := by first | exact fun _ => rfl | exact id) (hb : hp L o = some (.box TB cs) := by rfl) (hc : cs[off]? = some c := by rfl)
    (h : Reg P r N D B all (i + 1) ops ((i, Ct.p gn [x] [(gx, .ptr o off)] (some d) (g, c) [(o, .box TB cs)]) :: tr) (st ((d, (g, c)) :: E) L n) K) :
    Reg P r N D B all i (⟨some d, .load T x, ty, pos, aft, gd⟩ :: ops) tr (st E L n) K :=
  Reg.one rfl (fun h => by
    rw [entLV_true h hgx]
    refine OpC.of_pure1 (x := x) rfl (by simp) fun md n0 cx H ρ w hok hrd hvv => ?_
    simp only [V] at hvv
    obtain ⟨hA, b, hbk, he⟩ := hvv
    obtain ⟨b', vs, k1, k2, k3⟩ := (hok.ok o _ (hrd o (.box TB cs) (by simp))).2
    rw [k1] at hbk
    simp only [bk, Option.some.injEq] at hbk
    subst hbk
    obtain ⟨v, k4, k5⟩ := k3.get hc
    refine ⟨v, ?_, k5⟩
    have hcell : w.cell? ⟨b', off, none⟩ = some v := by simp [World.cell?, k2, k4]
    simp [execOp, he, Instr.loadAt, Instr.sureAddr, loadVar, hF.1 w, hcell]) ho hg hx (fun k y hy => by
      simp only [hp, List.lookup_cons] at hy
      split at hy
      · rename_i hh; simp at hh; cases hy; subst hh; exact hb
      · simp at hy) h

/-- the whole of a box -/
theorem R.loadA {T TB sz : Nat} (hF : AggF P T sz) {x : Operand} {gx : Bool} {o : Nat} {cs : List LV}
    (ho : all[i]? = some ⟨some d, .load T x, ty, pos, aft, gd⟩ := by rfl) (hg : GuardOk (en E) all gd g gn := by first | exact gN | exact gS rfl rfl)
    (hx : lvOf (en E) x = some (gx, .ptr o 0) := by rfl) (hgx : g = true → gx = true := by first | exact fun _ => rfl | exact id) (hb : hp L o = some (.box TB cs) := by rfl) (hc : cs.length = sz := by rfl)
    (h : Reg P r N D B all (i + 1) ops ((i, Ct.p gn [x] [(gx, .ptr o 0)] (some d) (g, .agg cs) [(o, .box TB cs)]) :: tr) (st ((d, (g, .agg cs)) :: E) L n) K) :
    Reg P r N D B all i (⟨some d, .load T x, ty, pos, aft, gd⟩ :: ops) tr (st E L n) K :=
  Reg.one rfl (fun h => by
    rw [entLV_true h hgx]
    refine OpC.of_pure1 (x := x) rfl (by simp) fun md n0 cx H ρ w hok hrd hvv => ?_
    simp only [V] at hvv
    obtain ⟨hA, b, hbk, he⟩ := hvv
    obtain ⟨b', vs, k1, k2, k3⟩ := (hok.ok o _ (hrd o (.box TB cs) (by simp))).2
    rw [k1] at hbk
    simp only [bk, Option.some.injEq] at hbk
    subst hbk
    refine ⟨.agg vs.toArray, ?_, by simp only [V]; exact ⟨vs, rfl, k3⟩⟩
    have hl : (loadCells ⟨b', 0, none⟩ vs.length).run P w = .ok vs.toArray w := run_loadCells_list (P := P) w ⟨b', 0, none⟩ vs (fun j v hv => by
      have hadd : (⟨b', 0, none⟩ : Addr).add j = ⟨b', j, none⟩ := by unfold Addr.add; split <;> simp_all
      rw [hadd]; simp [World.cell?, k2, hv])
    rw [k3.length, hc] at hl
    simp [execOp, he, Instr.loadAt, Instr.sureAddr, loadVar, hF.1 w, hF.2 w, hl]) ho hg hx (fun k y hy => by
      simp only [hp, List.lookup_cons] at hy
      split at hy
      · rename_i hh; simp at hh; cases hy; subst hh; exact hb
      · simp at hy) h

theorem Vs.set {cx : Cx} {w : World} : ∀ {cs : List LV} {vs : List Value} {k : Nat} {c : LV} {v : Value}, Vs cx w cs vs → V cx w c v → Vs cx w (cs.set k c) (vs.set k v)
  | [], vs, k, c, v, h, _ => by simp [Vs] at h; subst h; simp [Vs]
  | d :: cs, vs, k, c, v, h, hv => by
    simp only [Vs] at h
    obtain ⟨y, r, rfl, h1, h2⟩ := h
    cases k with
    | zero => simp only [List.set_cons_zero, Vs]; exact ⟨v, r, rfl, hv, h2⟩
    | succ k => simp only [List.set_cons_succ, Vs]; exact ⟨y, _, rfl, h1, Vs.set h2 hv⟩

/-- a cell of a box is written -/
theorem R.storeB {T TB : Nat} (hF : OneF P T) {x y : Operand} {o off : Nat} {cs cs' : List LV} {c : LV}
    (ho : all[i]? = some ⟨none, .store T x y, ty, pos, aft, none⟩ := by rfl)
    (hx : lvOf (en E) x = some (true, .ptr o off) := by rfl) (hy : lvOf (en E) y = some (true, c) := by rfl) (h1 : c.one = true := by rfl) (hb : hp L o = some (.box TB cs) := by rfl) (hlt : off < cs.length := by first | exact Nat.le_of_ble_eq_true rfl | decide | (simp; done) | (simp; omega))
    (hs : cs.set off c = cs' := by (try simp only [List.set_cons_succ, List.set_cons_zero]); rfl)
    (h : Reg P r N D B all (i + 1) ops ((i, ⟨needOf [x, y] [(true, .ptr o off), (true, c)], none, (true, .v undef), [], [(o, .box TB cs)], [(o, .box TB cs')], []⟩) :: tr) (st E ((o, .box TB cs') :: L) n) K) :
    Reg P r N D B all i (⟨none, .store T x y, ty, pos, aft, none⟩ :: ops) tr (st E L n) K :=
  Reg.set (es := [(true, .ptr o off), (true, c)]) (rd := []) ho gN ⟨_, _, rfl, hx, _, _, rfl, hy, rfl⟩ (by simp) hb (OpC.of_run (by simp) (by simp) fun md n0 cx H ρ w hok _ hHi _ hv => by
    obtain ⟨v1, v2⟩ := Vs.two hv
    simp only [entLV] at v1 v2
    have hob := hHi o (.box TB cs) (by simp)
    obtain ⟨hA, b', vs, k1, k2, k3⟩ := hok.ok o _ hob
    simp only [V] at v1
    obtain ⟨_, b, hbk, he⟩ := v1
    have hbk' := hbk
    rw [k1] at hbk
    simp only [bk, Option.some.injEq] at hbk
    subst hbk
    have hone := LV.one_spec h1 v2
    have hltv : off < vs.length := by rw [k3.length]; exact hlt
    have hcell : w.cell? ⟨b', off, none⟩ = some vs[off] := by simp [World.cell?, k2, hltv]
    have hfr : w.frozen? ⟨b', off, none⟩ = false := by simp [World.frozen?, k2]
    have hw' : (w.setCell ⟨b', off, none⟩ (ρ y)).heap[b']? = some (.cells (vs.set off (ρ y)).toArray TB (0, 0)) := by
      have hlt' := (Array.getElem?_eq_some_iff.1 k2).1
      have hget := (Array.getElem?_eq_some_iff.1 k2).2
      simp only [World.setCell, Array.getElem?_modify, if_true, k2, Option.map_some]
      simp
    have hoth : ∀ k, k ≠ b' → (w.setCell ⟨b', off, none⟩ (ρ y)).heap[k]? = w.heap[k]? := by
      intro k hk
      simp only [World.setCell, Array.getElem?_modify, if_neg (Ne.symm hk)]
    refine ⟨.skip, undef, w.setCell ⟨b', off, none⟩ (ρ y), cx, ?_, .inr ⟨rfl, rfl⟩, Tr.set hok hob hbk' ⟨rfl, rfl, rfl⟩ (by simp [World.setCell]) hoth (fun hext => ?_), V.mkval⟩
    · have hst := run_store P w ⟨b', off, none⟩ (ρ y) .plain hone
      rw [hcell] at hst
      simp only [hfr, Bool.false_eq_true, if_false] at hst
      have hadd : (⟨b', off, none⟩ : Addr).add 0 = ⟨b', off, none⟩ := rfl
      simp [execOp, he, Instr.storeAt, Instr.sureAddr, storeVar, cells_one hone, hF.2 w, storeCells, hadd, hst]
    · refine ⟨b', vs.set off (ρ y), k1, hw', ?_⟩
      rw [← hs]
      exact Vs.set (Vs.mono (CxLe.refl _) hext _ _ k3) (V.mono (CxLe.refl _) hext _ _ v2)) h

end

end Go.Proofs.YtnamkhifmankmaaDoor

/- Calls, the ends of a function, states that say no more; stores of aggregates; append. -/
namespace Go.Proofs.YtnamkhifmankmaaDoor

section
variable {P : Program} {r : Option Nat} {N : Nat} {D : List Nat} {B : Base} {all : Array Oper} {K : List (Nat × Ct) → St → Prop}
variable {i : Nat} {ops : List Oper} {tr : List (Nat × Ct)} {E : List (Nat × Ent)} {L : List (Nat × LO)} {n : Nat} {g : Bool} {gn : List (Nat × Ent)}
variable {d ty : Nat} {pos : String} {aft : Array Edge} {gd : Option (Nat × Bool)}

/-! ### calls -/

/-- a function that is called with closed values and touches no object of its caller's -/
structure PC (P : Program) (f : FuncId) (lvs : List LV) (out : LV) : Prop where
  lc : LC P f 0 lvs [] out [] 0

mutual
theorem mapI_of_lt0 (σ : Nat → Nat) : ∀ l : LV, l.lt 0 = true → l.mapI σ = l
  | .sv s, _ => by simp [LV.mapI]
  | .agg cs, h => by simp only [LV.mapI]; rw [mapIs_of_lt0 σ cs (by simpa [LV.lt] using h)]
  | .tup cs, h => by simp only [LV.mapI]; rw [mapIs_of_lt0 σ cs (by simpa [LV.lt] using h)]
  | .ptr o off, h => by simp [LV.lt] at h
  | .ref o, h => by simp [LV.lt] at h
  | .fn f p q, h => by
    simp only [LV.lt, Bool.and_eq_true] at h
    simp only [LV.mapI]; rw [mapIs_of_lt0 σ p h.1, mapIs_of_lt0 σ q h.2]
  | .yld o, h => by simp [LV.lt] at h
  | .sub o _ _ _, h => by simp [LV.lt] at h
  | .pv p, _ => by simp [LV.mapI]
theorem mapIs_of_lt0 (σ : Nat → Nat) : ∀ l : List LV, LV.lts 0 l = true → LV.mapIs σ l = l
  | [], _ => by simp [LV.mapIs]
  | c :: cs, h => by
    simp only [LV.lts, Bool.and_eq_true] at h
    simp only [LV.mapIs]; rw [mapI_of_lt0 σ c h.1, mapIs_of_lt0 σ cs h.2]
end

theorem Opnds.of_map {E : En} : ∀ {xs : List Operand} {es : List Ent}, xs.map (lvOf E) = es.map some → Opnds E xs es
  | [], [], _ => rfl
  | [], e :: es, h => by simp at h
  | x :: xs, [], h => by simp at h
  | x :: xs, e :: es, h => by
    simp only [List.map_cons, List.cons.injEq] at h
    exact ⟨e, es, rfl, h.1, Opnds.of_map h.2⟩

theorem run_call {f : FuncId} (hf : Entr P f) (first cap : List Value) (c : Go.Call) (fo : Operand) (hc : c.callee = .value fo) (ρ : Operand → Value) (hfo : ρ fo = .func (.func f) first.toArray cap.toArray) (ty : TypeId) (w : World) :
    (do let d ← resolve ρ c ty; invoke d.target d.args : Sem Next).run P w = .ok (.enter f (first ++ c.args.toList.map ρ ++ cap).toArray) w := by
  have := hf (first ++ c.args.toList.map ρ ++ cap).toArray w
  simp only [resolve, hc, hfo, Deferred.ofValue, Sem.run_bind, Sem.run_pure, Result.andThen_ok, invoke]
  have e : first.toArray ++ Array.map ρ c.args ++ cap.toArray = (first ++ c.args.toList.map ρ ++ cap).toArray := by
    apply Array.ext'; simp
  rw [e]; exact this

/-- a call by its contract: the callee's own names for objects stand for ids; what it makes is named from n on -/
theorem OpC.call {f : FuncId} {ids : List Nat} {lvs first cap : List LV} {Hi Ho : List (Nat × LO)} {out : LV} {k : Nat} (hc : LC P f ids.length lvs Hi out Ho k) (hnd : ids.Nodup)
    {o : Oper} {c : Go.Call} {fo : Operand} (ho : o.op = .call c) (hcl : c.callee = .value fo) {avs : List LV} (hargs : first ++ avs ++ cap = LV.mapIs (sg ids n) lvs) :
    OpC P r o (.fn (.func f) first cap :: avs) [] (Hi.map fun p => (sg ids n p.1, p.2.mapI (sg ids n))) (out.mapI (sg ids n)) (Ho.map fun p => (sg ids n p.1, p.2.mapI (sg ids n))) (List.range' n k) := by
  have hsg : ∀ q, q < ids.length → sg ids n q = ids.getD q 0 := by
    intro q hq; simp [sg, List.getD_eq_getElem?_getD, List.getElem?_eq_getElem hq]
  have hkeys : (Hi.map fun p => (sg ids n p.1, p.2.mapI (sg ids n))).map (·.1) = ids := by
    rw [List.map_map]
    have : ((fun (x : Nat × LO) => x.1) ∘ fun (p : Nat × LO) => (sg ids n p.1, p.2.mapI (sg ids n))) = (sg ids n) ∘ (fun (p : Nat × LO) => p.1) := rfl
    rw [this, ← List.map_map, hc.rng]
    apply List.ext_getElem
    · simp
    · intro q h1 h2
      simp only [List.getElem_map, List.getElem_range]
      rw [hsg q h2]; simp [List.getD_eq_getElem?_getD, h2]
  refine ⟨fun p hp' => ?_, fun md n0 cx H a w K Q hok ham hrd hHi hnew hv hK => ?_⟩
  · obtain ⟨q, hq, rfl⟩ := List.mem_map.1 hp'
    rcases hc.hos q hq with hh | hh
    · obtain ⟨q', hq', he⟩ := List.mem_map.1 hh
      left
      exact List.mem_map.2 ⟨_, List.mem_map.2 ⟨q', hq', rfl⟩, by simp [he]⟩
    · right
      have : sg ids n q.1 = n + (q.1 - ids.length) := by simp [sg, List.getD_eq_getElem?_getD, List.getElem?_eq_none hh.1]
      simp only [this, List.mem_range'_1]; omega
  · have hop : o.op.operands.toList = fo :: c.args.toList := by simp [ho, Op.operands, Go.Call.operands, hcl]
    rw [hop] at hv
    simp only [List.map_cons, Vs] at hv
    obtain ⟨vf, rest, he, hvf, hva⟩ := hv
    simp only [List.cons.injEq] at he
    obtain ⟨rfl, rfl⟩ := he
    simp only [V] at hvf
    obtain ⟨us, vs, e1, e2, e3⟩ := hvf
    have hall : Vs cx w (LV.mapIs (sg ids n) lvs) (us ++ c.args.toList.map a.eval ++ vs) := by
      rw [← hargs]; exact Vs.append (Vs.append e2 hva) e3
    have hrun := run_call (P := P) hc.entr us vs c fo hcl a.eval e1 o.type w
    refine ⟨fun _ _ => trivial, ?_⟩
    rw [Oper.semAt_eq _ _ _ (by rw [ho]; simp)]
    have : (execOp a.eval o).run P w = .ok (.enter f (us ++ c.args.toList.map a.eval ++ vs).toArray) w := by
      unfold execOp; rw [ho]; exact hrun
    rw [this, Oper.uponIn_enter]
    refine ⟨fun h => by simp [FW, Fence.wide] at h, callsIn_FW ?_⟩
    have hH : ∀ p ∈ Hi, H (sg ids n p.1) = some (p.2.mapI (sg ids n)) := fun p hp' =>
      hHi _ _ (lookup_of_nodup (by rw [hkeys]; exact hnd) (List.mem_map.2 ⟨p, hp', rfl⟩))
    have hA : ∀ q ∈ ids, cx.A q := by
      intro q hq
      rw [← hkeys] at hq
      obtain ⟨p, hp', rfl⟩ := List.mem_map.1 hq
      obtain ⟨p', hp'', rfl⟩ := List.mem_map.1 hp'
      exact (hok.ok _ _ (hH p' hp'')).1
    refine (hc.use hnd hok ham hA hH hnew hall).mono ?_
    rintro e w' ⟨v, cx', rfl, t, hvo⟩
    exact hK cx' w' v t hvo

/-- a call of a function that touches no object -/
theorem R.callP {f : FuncId} {args : Array Operand} {ats : Array TypeId} {es : List Ent} {lvs : List LV} {out : LV} (hc : g = true → PC P f lvs out)
    (ho : all[i]? = some ⟨some d, .call { callee := .value (.func f), args := args, argTypes := ats }, ty, pos, aft, gd⟩ := by rfl) (hg : GuardOk (en E) all gd g gn := by first | exact gN | exact gS rfl rfl)
    (hx : args.toList.map (lvOf (en E)) = es.map some := by rfl) (hes : g = true → es.map entLV = lvs := by first | exact fun _ => rfl | (intro h; simp [entLV, h]; done) | (intro h; simp only [List.map_cons, List.map_nil, entLV_eq h]; first | done | rfl))
    (h : Reg P r N D B all (i + 1) ops ((i, Ct.p gn (.func f :: args.toList) ((true, .fn (.func f) [] []) :: es) (some d) (g, out) []) :: tr) (st ((d, (g, out)) :: E) L n) K) :
    Reg P r N D B all i (⟨some d, .call { callee := .value (.func f), args := args, argTypes := ats }, ty, pos, aft, gd⟩ :: ops) tr (st E L n) K := by
  have hl : (Oper.mk (some d) (.call { callee := .value (.func f), args := args, argTypes := ats }) ty pos aft gd).op.operands.toList = .func f :: args.toList := by simp [Op.operands, Go.Call.operands]
  refine Reg.pure (es := (true, .fn (.func f) [] []) :: es) (rd := []) (out := out) ho hg ?_ (by simp) (fun hgt => ?_) ?_
  · rw [hl]; exact ⟨_, _, rfl, rfl, Opnds.of_map hx⟩
  · have h1 := (hc hgt).lc
    refine ⟨by simp, fun md n0 cx H a w K Q hok ham hrd hHi hnew hv hK => ?_⟩
    rw [hl] at hv
    simp only [List.map_cons, Vs] at hv
    obtain ⟨vf, rest, he, hvf, hva⟩ := hv
    simp only [List.cons.injEq] at he
    obtain ⟨rfl, rfl⟩ := he
    rw [hes hgt] at hva
    let c1 : Cx := ⟨cx.pr, fun o => o < 0, cx.loc, cx.inn⟩
    have hva1 : Vs c1 w lvs (args.toList.map a.eval) := Vs.unren (cx1 := c1) (cx2 := cx) (σ := id) (m := 0) rfl (fun o ho => absurd ho (Nat.not_lt_zero o)) _ _ h1.args (by rw [mapIs_of_lt0 _ _ h1.args]; exact hva)
    have hok1 : HOk (fun _ => True) 0 c1 (hp []) w := ⟨fun o x hx => by simp at hx, fun o x b hx => by simp at hx, fun o o' x x' b _ hx => by simp at hx, hok.lim⟩
    have hrun := run_call (P := P) h1.entr [] [] { callee := .value (.func f), args := args, argTypes := ats } (.func f) rfl a.eval rfl ty w
    refine ⟨fun _ _ => trivial, ?_⟩
    rw [Oper.semAt_eq _ _ _ (by simp)]
    have : (execOp a.eval ⟨some d, .call { callee := .value (.func f), args := args, argTypes := ats }, ty, pos, aft, gd⟩).run P w = .ok (.enter f (args.toList.map a.eval).toArray) w := by
      unfold execOp; simpa using hrun
    rw [this, Oper.uponIn_enter]
    refine ⟨fun h => by simp [FW, Fence.wide] at h, callsIn_FW ((h1.go c1 w _ (fun o => Iff.rfl) hok1 ham hva1).mono ?_)⟩
    rintro e w' ⟨v, c2, rfl, t, hvo⟩
    let c3 : Cx := ⟨c2.pr, cx.A, cx.loc, cx.inn⟩
    have hno : ∀ o, ¬ c2.A o := fun o ho => by
      rcases (t.A o).1 ho with h | h
      · exact Nat.not_lt_zero o h
      · omega
    refine hK c3 w' v ⟨fun o ho => ⟨ho, rfl⟩, fun o => by simp [c3], ⟨t.grow.os, t.grow.tape, t.grow.output, t.grow.size, fun b hb hn => t.grow.same b hb (fun ⟨o, x, hx, _⟩ => by simp at hx), fun b hb hn => t.grow.prs b hb (fun ⟨o, x, hx, _⟩ => by simp at hx), t.grow.ext⟩,
      ⟨fun o x hx => by simp at hx, fun o x b hx => by simp at hx, fun o o' x x' b _ hx => by simp at hx, t.heap.lim⟩, fun _ _ _ => rfl⟩ ?_
    exact V.mono (cx := c2) (cx' := c3) (fun o ho => absurd ho (hno o)) (Ext.refl _ _) _ _ hvo
  · rw [hl]; exact h

end

/-! ### the ends of a function, and states that say no more -/

section
variable {P : Program} {r : Option Nat} {N : Nat} {D : List Nat} {B : Base} {Ψ : Exit → Act → World → Prop} {todo : List Item} {S : St}
variable {E : List (Nat × Ent)} {L : List (Nat × LO)} {n : Nat}

theorem noHo {L : List (Nat × LO)} : ∀ (o : Nat) (x : LO), hp [] o = some x → hp L o = some x := by simp
theorem res1 {fn : Func} {t : Nat} {l : LV} (h : fn.results = #[.tmp t]) {m k : Nat} {Hi Ho : List (Nat × LO)} (hA : ∀ o, B.cx.A o ↔ o < m) (hmd : B.md = blks B.cx (hp Hi)) (hn : n = m + k)
    (hHo : ∀ o x, hp Ho o = some x → hp L o = some x) (ht : en E t = some (true, l)) {e : Exit} (he : e = .normal ∨ e = .ret) :
    ∀ cx a w, Rel B N [] (st E L n) cx a w → FnPost P fn B m l Hi Ho k e a w := by
  intro cx a w hr
  subst hn
  refine FnPost.of hA hmd hHo he hr (v := a.tmps.getD t undef) ?_ ((hr.env t _ ht).1 rfl)
  simp [results, h]
theorem res2 {fn : Func} {t u : Nat} {l k' : LV} (h : fn.results = #[.tmp t, .tmp u]) {m k : Nat} {Hi Ho : List (Nat × LO)} (hA : ∀ o, B.cx.A o ↔ o < m) (hmd : B.md = blks B.cx (hp Hi)) (hn : n = m + k)
    (hHo : ∀ o x, hp Ho o = some x → hp L o = some x) (ht : en E t = some (true, l)) (hu : en E u = some (true, k')) {e : Exit} (he : e = .normal ∨ e = .ret) :
    ∀ cx a w, Rel B N [] (st E L n) cx a w → FnPost P fn B m (.tup [l, k']) Hi Ho k e a w := by
  intro cx a w hr
  subst hn
  refine FnPost.of hA hmd hHo he hr (v := .tuple #[a.tmps.getD t undef, a.tmps.getD u undef]) ?_ ?_
  · simp [results, h]
  · simp only [V, Vs]
    exact ⟨[_, _], rfl, _, _, rfl, (hr.env t _ ht).1 rfl, _, _, rfl, (hr.env u _ hu).1 rfl, rfl⟩
theorem res3 {fn : Func} {t u v : Nat} {l k' j : LV} (h : fn.results = #[.tmp t, .tmp u, .tmp v]) {m k : Nat} {Hi Ho : List (Nat × LO)} (hA : ∀ o, B.cx.A o ↔ o < m) (hmd : B.md = blks B.cx (hp Hi)) (hn : n = m + k)
    (hHo : ∀ o x, hp Ho o = some x → hp L o = some x) (ht : en E t = some (true, l)) (hu : en E u = some (true, k')) (hv : en E v = some (true, j)) {e : Exit} (he : e = .normal ∨ e = .ret) :
    ∀ cx a w, Rel B N [] (st E L n) cx a w → FnPost P fn B m (.tup [l, k', j]) Hi Ho k e a w := by
  intro cx a w hr
  subst hn
  refine FnPost.of hA hmd hHo he hr (v := .tuple #[a.tmps.getD t undef, a.tmps.getD u undef, a.tmps.getD v undef]) ?_ ?_
  · simp [results, h]
  · simp only [V, Vs]
    exact ⟨[_, _, _], rfl, _, _, rfl, (hr.env t _ ht).1 rfl, _, _, rfl, (hr.env u _ hu).1 rfl, _, _, rfl, (hr.env v _ hv).1 rfl, rfl⟩

/-- fewer slots, fewer objects, other names (σ: from the new names to the old ones) -/
theorem LGo.conv' {E' : List (Nat × Ent)} {L' : List (Nat × LO)} {n' : Nat} (σ : Nat → Nat) (hE : ∀ p ∈ E', en E p.1 = some (p.2.1, p.2.2.mapI σ)) (hEl : ∀ p ∈ E', p.2.2.lt n' = true)
    (hL : ∀ p ∈ L', hp L (σ p.1) = some (p.2.mapI σ) ∧ p.2.lt n' = true ∧ p.1 < n') (hinj : ∀ p ∈ L', ∀ q ∈ L', σ p.1 = σ q.1 → p.1 = q.1) (hσ : ∀ o, o < n' → σ o < n) (hB : ∀ o, B.cx.A o → o < n' ∧ σ o = o) (hD : ∀ o ∈ D, o < n' ∧ σ o = o)
    (h : LGo P r N D B Ψ todo (st E' L' n')) : LGo P r N D B Ψ todo (st E L n) := by
  refine LGo.conv (fun cx a w hr => ?_) h
  let c2 : Cx := ⟨cx.pr, fun o => o < n', fun o => cx.loc (σ o), fun o => cx.inn (σ o)⟩
  have h1 : ∀ o, o < n' → c2.A o ∧ c2.loc o = cx.loc (σ o) := fun o ho => ⟨ho, rfl⟩
  have mem_of : ∀ {α : Type} (l : List (Nat × α)) (o : Nat) (x : α), l.lookup o = some x → (o, x) ∈ l := by
    intro α l o x hx
    induction l with
    | nil => simp at hx
    | cons p l ih =>
      obtain ⟨k', v'⟩ := p
      simp only [List.lookup_cons] at hx
      split at hx
      · rename_i hh; simp at hh; subst hh; cases hx; simp
      · exact List.mem_cons_of_mem _ (ih hx)
  refine ⟨c2, ⟨hr.grow, fun o ho => ?_, rfl, ⟨fun o x hx => ?_, fun o x b hx hb => ?_, fun o o' x x' b hne hx hx' hb hb' => ?_, hr.heap.lim⟩, hr.size, fun t e he => ?_, ?_, fun o ho => (hD o ho).1⟩⟩
  · obtain ⟨k1, k2⟩ := hB o ho
    refine ⟨k1, ?_⟩
    show cx.loc (σ o) = _
    rw [k2]; exact (hr.le o ho).2
  · have hm := mem_of _ _ _ hx
    obtain ⟨k1, k2, k3⟩ := hL _ hm
    exact ⟨k3, ObjOk.unren (cx1 := c2) (cx2 := cx) rfl h1 k3 k2 rfl (hr.heap.ok _ _ k1).2⟩
  · have hm := mem_of _ _ _ hx
    obtain ⟨k1, k2, k3⟩ := hL _ hm
    exact hr.heap.own _ _ b k1 (has_map rfl rfl hb)
  · have hm := mem_of _ _ _ hx
    have hm' := mem_of _ _ _ hx'
    have hne' : σ o ≠ σ o' := fun e => hne (hinj _ hm _ hm' e)
    exact hr.heap.inj _ _ _ _ b hne' (hL _ hm).1 (hL _ hm').1 (has_map rfl rfl hb) (has_map rfl rfl hb')
  · have hm := mem_of _ _ _ he
    have := hr.env t _ (hE _ hm)
    exact ⟨fun hg => V.unren (cx1 := c2) (cx2 := cx) rfl h1 _ _ (hEl _ hm) (this.1 hg), this.2⟩
  · rw [hr.df]
    exact List.map_congr_left (fun o ho => by simp only [mkd]; show _ = Deferred.mk (.collected ((bk (cx.loc (σ o))).getD 0)) _; rw [(hD o ho).2])

mutual
theorem mapI_id : ∀ l : LV, l.mapI id = l
  | .sv s => by simp [LV.mapI]
  | .agg cs => by simp only [LV.mapI]; rw [mapIs_id cs]
  | .tup cs => by simp only [LV.mapI]; rw [mapIs_id cs]
  | .ptr o off => by simp [LV.mapI]
  | .ref o => by simp [LV.mapI]
  | .fn f p q => by simp only [LV.mapI]; rw [mapIs_id p, mapIs_id q]
  | .yld o => by simp [LV.mapI]
  | .sub o _ _ _ => by simp [LV.mapI]
  | .pv _ => by simp [LV.mapI]
theorem mapIs_id : ∀ l : List LV, LV.mapIs id l = l
  | [] => by simp [LV.mapIs]
  | c :: cs => by simp only [LV.mapIs]; rw [mapI_id c, mapIs_id cs]
end

def KeepE (E : En) : List (Nat × Ent) → Prop
  | [] => True
  | p :: l => E p.1 = some p.2 ∧ KeepE E l
def KeepL (H : Hp) : List (Nat × LO) → Prop
  | [] => True
  | p :: l => H p.1 = some p.2 ∧ KeepL H l
theorem KeepE.get {E : En} : ∀ {l : List (Nat × Ent)}, KeepE E l → ∀ {t : Nat} {e : Ent}, en l t = some e → E t = some e
  | [], _, t, e, h => by simp at h
  | (a, b) :: l, h, t, e, ht => by
    simp only [KeepE] at h
    simp only [en, List.lookup_cons] at ht
    split at ht
    · rename_i hh; simp at hh; cases ht; subst hh; exact h.1
    · exact KeepE.get h.2 ht
theorem KeepL.get {E : Hp} : ∀ {l : List (Nat × LO)}, KeepL E l → ∀ {t : Nat} {e : LO}, hp l t = some e → E t = some e
  | [], _, t, e, h => by simp at h
  | (a, b) :: l, h, t, e, ht => by
    simp only [KeepL] at h
    simp only [hp, List.lookup_cons] at ht
    split at ht
    · rename_i hh; simp at hh; cases ht; subst hh; exact h.1
    · exact KeepL.get h.2 ht

/-- fewer slots and objects -/
theorem LGo.keep (E' : List (Nat × Ent)) (L' : List (Nat × LO)) (hE : KeepE (en E) E') (hL : KeepL (hp L) L')
    (h : LGo P r N D B Ψ todo (st E' L' n)) : LGo P r N D B Ψ todo (st E L n) := by
  refine LGo.conv (fun cx a w hr => ?_) h
  refine ⟨cx, ⟨hr.grow, hr.le, hr.hA, ⟨fun o x hx => hr.heap.ok _ _ (hL.get hx), fun o x b hx hb => hr.heap.own _ _ b (hL.get hx) hb,
    fun o o' x x' b hne hx hx' hb => hr.heap.inj _ _ _ _ b hne (hL.get hx) (hL.get hx') hb, hr.heap.lim⟩, hr.size, fun t e he => hr.env t e (hE.get he), hr.df, hr.dA⟩⟩

/-- fewer objects, counted anew: none is left -/
theorem LGo.drop (m : Nat) (hB : ∀ o, B.cx.A o → o < m) (hm : m ≤ n) (E' : List (Nat × Ent)) (L' : List (Nat × LO)) (hE : KeepE (en E) E') (hL : KeepL (hp L) L') (hEl : ∀ p ∈ E', p.2.2.lt m = true) (hLl : ∀ p ∈ L', p.1 < m ∧ p.2.lt m = true)
    (hD : ∀ o ∈ D, o < m := by simp) (h : LGo P r N D B Ψ todo (st E' L' m)) : LGo P r N D B Ψ todo (st E L n) := by
  refine LGo.keep E' L' hE hL (LGo.conv (fun cx a w hr => ?_) h)
  let c2 : Cx := ⟨cx.pr, fun o => o < m, cx.loc, cx.inn⟩
  have h1 : ∀ o, o < m → c2.A o ∧ c2.loc o = cx.loc (id o) := fun o ho => ⟨ho, rfl⟩
  have mem_of : ∀ {α : Type} (l : List (Nat × α)) (o : Nat) (x : α), l.lookup o = some x → (o, x) ∈ l := by
    intro α l o x hx
    induction l with
    | nil => simp at hx
    | cons p l ih =>
      obtain ⟨k', v'⟩ := p
      simp only [List.lookup_cons] at hx
      split at hx
      · rename_i hh; simp at hh; subst hh; cases hx; simp
      · exact List.mem_cons_of_mem _ (ih hx)
  have idO : ∀ x : LO, x.mapI id = x := by
    intro x
    cases x with
    | box T cs => simp [LO.mapI, mapIs_id]
    | row T sz xs => simp only [LO.mapI]; congr 1; exact (List.map_congr_left (fun a _ => mapIs_id a)).trans (List.map_id _)
    | rs T sz ys => rfl
    | bx T cs k Te sz ys => simp [LO.mapI, mapIs_id]
    | raw x => rfl
    | loop fn N E ps a b st pd =>
      simp only [LO.mapI, mapE]
      congr 1
      exact (List.map_congr_left (fun p _ => by rw [mapI_id]; rfl)).trans (List.map_id _)
  refine ⟨c2, ⟨hr.grow, fun o ho => ⟨hB o ho, (hr.le o ho).2⟩, rfl, ⟨fun o x hx => ?_, fun o x b hx hb => hr.heap.own o x b hx hb, fun o o' x x' b hne hx hx' hb => hr.heap.inj o o' x x' b hne hx hx' hb, hr.heap.lim⟩, hr.size, fun t e he => ?_, hr.df, hD⟩⟩
  · obtain ⟨k1, k2⟩ := hLl _ (mem_of _ _ _ hx)
    exact ⟨k1, ObjOk.unren (cx1 := c2) (cx2 := cx) (σ := id) rfl h1 k1 k2 rfl (by rw [idO]; exact (hr.heap.ok _ _ hx).2)⟩
  · have := hr.env t _ he
    exact ⟨fun hg => V.unren (cx1 := c2) (cx2 := cx) (σ := id) rfl h1 _ _ (hEl _ (mem_of _ _ _ he)) (by rw [mapI_id]; exact this.1 hg), this.2⟩

/-- the next round, or a state told before -/
theorem LGo.next (m : Nat) (hB : ∀ o, B.cx.A o → o < m) (hm : m ≤ n) {E' : List (Nat × Ent)} {L' : List (Nat × LO)} (h : LGo P r N D B Ψ todo (st E' L' m)) (hE : KeepE (en E) E') (hL : KeepL (hp L) L')
    (hEl : (E'.all fun p => p.2.2.lt m) = true := by rfl) (hLl : (L'.all fun p => decide (p.1 < m) && p.2.lt m) = true := by rfl) (hD : ∀ o ∈ D, o < m := by simp) : LGo P r N D B Ψ todo (st E L n) :=
  LGo.drop m hB hm E' L' hE hL (fun p hp' => List.all_eq_true.1 hEl p hp') (fun p hp' => by have := List.all_eq_true.1 hLl p hp'; simpa using this) hD h

/-- a loop: states told by x of σ; a measure that each round lowers -/
theorem LGo.loopK {σ : Type} (Q : σ → Prop) (EE : σ → List (Nat × Ent)) (LL : σ → List (Nat × LO)) (nn : σ → Nat) (μ : σ → Nat) (x0 : σ) (h0 : Q x0)
    (round : ∀ x, Q x → (∀ y, Q y → μ y < μ x → LGo P r N D B Ψ todo (st (EE y) (LL y) (nn y))) → LGo P r N D B Ψ todo (st (EE x) (LL x) (nn x))) :
    LGo P r N D B Ψ todo (st (EE x0) (LL x0) (nn x0)) := by
  have key : ∀ m x, μ x = m → Q x → LGo P r N D B Ψ todo (st (EE x) (LL x) (nn x)) := by
    intro m
    induction m using Nat.strongRecOn with
    | _ m ih =>
      intro x hx hQ
      exact round x hQ (fun y hy hlt => ih (μ y) (hx ▸ hlt) y rfl hy)
  exact key _ x0 rfl h0

/-- a test of a proposition -/
theorem LGo.ifd {p : Prop} [Decidable p] {c : Operand} {x y : Code} (hc : lvOf (en E) c = some (true, .b (decide p)) := by rfl) (ht : p → LGo P r N D B Ψ (.code x :: todo) (st E L n))
    (hf : ¬ p → LGo P r N D B Ψ (.code y :: todo) (st E L n)) : LGo P r N D B Ψ (.code (.cond c x y) :: todo) (st E L n) :=
  LGo.cond hc (fun h => ht (of_decide_eq_true h)) (fun h => hf (of_decide_eq_false h))
theorem LGo.ifb {p : Bool} {c : Operand} {x y : Code} (hc : lvOf (en E) c = some (true, .b p) := by rfl) (ht : p = true → LGo P r N D B Ψ (.code x :: todo) (st E L n))
    (hf : p = false → LGo P r N D B Ψ (.code y :: todo) (st E L n)) : LGo P r N D B Ψ (.code (.cond c x y) :: todo) (st E L n) :=
  LGo.cond hc ht hf
end

end Go.Proofs.YtnamkhifmankmaaDoor

/- Stores of aggregates, sums without a wrap, strings. -/
namespace Go.Proofs.YtnamkhifmankmaaDoor

theorem wrap_i64 {x : Int} (h : -9223372036854775808 ≤ x) (h' : x ≤ 9223372036854775807) : IntKind.i64.wrap x = x := IntWalk.i64_in x ⟨h, h'⟩
theorem wrap_u {k : IntKind} (hk : k.signed = false) {x : Int} (h : 0 ≤ x) (h' : x < 2 ^ k.bits) : k.wrap x = x := by
  cases k <;> simp_all [IntKind.wrap, IntKind.signed, IntKind.bits] <;> omega

section
variable {P : Program} {r : Option Nat} {N : Nat} {D : List Nat} {B : Base} {all : Array Oper} {K : List (Nat × Ct) → St → Prop}
variable {i : Nat} {ops : List Oper} {tr : List (Nat × Ct)} {E : List (Nat × Ent)} {L : List (Nat × LO)} {n : Nat} {g : Bool} {gn : List (Nat × Ent)}
variable {d ty : Nat} {pos : String} {aft : Array Edge} {gd : Option (Nat × Bool)}

theorem R.add {t yt : Nat} {x y : Operand} {gx gy : Bool} {k : IntKind} {a b : Int} (ho : all[i]? = some ⟨some d, .binOp .add t x y yt, ty, pos, aft, gd⟩ := by rfl) (hg : GuardOk (en E) all gd g gn := by first | exact gN | exact gS rfl rfl)
    (hx : lvOf (en E) x = some (gx, .v (.int k a)) := by rfl) (hy : lvOf (en E) y = some (gy, .v (.int k b)) := by rfl)
    (hgx : g = true → gx = true := by first | exact fun _ => rfl | exact id) (hgy : g = true → gy = true := by first | exact fun _ => rfl | exact id)
    (hw : k.wrap (a + b) = a + b := by first | exact wrap_i64 (by omega) (by omega) | exact wrap_u rfl (by omega) (by (try simp only [IntKind.bits]); omega))
    (h : Reg P r N D B all (i + 1) ops ((i, Ct.p gn [x, y] [(gx, .v (.int k a)), (gy, .v (.int k b))] (some d) (g, .v (.int k (a + b))) []) :: tr) (st ((d, (g, .v (.int k (a + b)))) :: E) L n) K) :
    Reg P r N D B all i (⟨some d, .binOp .add t x y yt, ty, pos, aft, gd⟩ :: ops) tr (st E L n) K :=
  R.bin (run_add t x y k a b hw) ho hg hx hy hgx hgy h
theorem R.addW {t yt : Nat} {x y : Operand} {gx gy : Bool} {k : IntKind} {a b : Int} (ho : all[i]? = some ⟨some d, .binOp .add t x y yt, ty, pos, aft, gd⟩ := by rfl) (hg : GuardOk (en E) all gd g gn := by first | exact gN | exact gS rfl rfl)
    (hx : lvOf (en E) x = some (gx, .v (.int k a)) := by rfl) (hy : lvOf (en E) y = some (gy, .v (.int k b)) := by rfl)
    (hgx : g = true → gx = true := by first | exact fun _ => rfl | exact id) (hgy : g = true → gy = true := by first | exact fun _ => rfl | exact id)
    (h : Reg P r N D B all (i + 1) ops ((i, Ct.p gn [x, y] [(gx, .v (.int k a)), (gy, .v (.int k b))] (some d) (g, .v (.int k (k.wrap (a + b)))) []) :: tr) (st ((d, (g, .v (.int k (k.wrap (a + b))))) :: E) L n) K) :
    Reg P r N D B all i (⟨some d, .binOp .add t x y yt, ty, pos, aft, gd⟩ :: ops) tr (st E L n) K :=
  R.bin (run_addW t x y k a b) ho hg hx hy hgx hgy h
theorem R.sub {t yt : Nat} {x y : Operand} {gx gy : Bool} {k : IntKind} {a b : Int} (ho : all[i]? = some ⟨some d, .binOp .sub t x y yt, ty, pos, aft, gd⟩ := by rfl) (hg : GuardOk (en E) all gd g gn := by first | exact gN | exact gS rfl rfl)
    (hx : lvOf (en E) x = some (gx, .v (.int k a)) := by rfl) (hy : lvOf (en E) y = some (gy, .v (.int k b)) := by rfl)
    (hgx : g = true → gx = true := by first | exact fun _ => rfl | exact id) (hgy : g = true → gy = true := by first | exact fun _ => rfl | exact id)
    (hw : k.wrap (a - b) = a - b := by first | exact wrap_i64 (by omega) (by omega) | exact wrap_u rfl (by omega) (by (try simp only [IntKind.bits]); omega))
    (h : Reg P r N D B all (i + 1) ops ((i, Ct.p gn [x, y] [(gx, .v (.int k a)), (gy, .v (.int k b))] (some d) (g, .v (.int k (a - b))) []) :: tr) (st ((d, (g, .v (.int k (a - b)))) :: E) L n) K) :
    Reg P r N D B all i (⟨some d, .binOp .sub t x y yt, ty, pos, aft, gd⟩ :: ops) tr (st E L n) K :=
  R.bin (run_sub t x y k a b hw) ho hg hx hy hgx hgy h
theorem R.subW {t yt : Nat} {x y : Operand} {gx gy : Bool} {k : IntKind} {a b : Int} (ho : all[i]? = some ⟨some d, .binOp .sub t x y yt, ty, pos, aft, gd⟩ := by rfl) (hg : GuardOk (en E) all gd g gn := by first | exact gN | exact gS rfl rfl)
    (hx : lvOf (en E) x = some (gx, .v (.int k a)) := by rfl) (hy : lvOf (en E) y = some (gy, .v (.int k b)) := by rfl)
    (hgx : g = true → gx = true := by first | exact fun _ => rfl | exact id) (hgy : g = true → gy = true := by first | exact fun _ => rfl | exact id)
    (h : Reg P r N D B all (i + 1) ops ((i, Ct.p gn [x, y] [(gx, .v (.int k a)), (gy, .v (.int k b))] (some d) (g, .v (.int k (k.wrap (a - b)))) []) :: tr) (st ((d, (g, .v (.int k (k.wrap (a - b))))) :: E) L n) K) :
    Reg P r N D B all i (⟨some d, .binOp .sub t x y yt, ty, pos, aft, gd⟩ :: ops) tr (st E L n) K :=
  R.bin (run_subW t x y k a b) ho hg hx hy hgx hgy h
theorem R.mul {t yt : Nat} {x y : Operand} {gx gy : Bool} {k : IntKind} {a b : Int} (ho : all[i]? = some ⟨some d, .binOp .mul t x y yt, ty, pos, aft, gd⟩ := by rfl) (hg : GuardOk (en E) all gd g gn := by first | exact gN | exact gS rfl rfl)
    (hx : lvOf (en E) x = some (gx, .v (.int k a)) := by rfl) (hy : lvOf (en E) y = some (gy, .v (.int k b)) := by rfl)
    (hgx : g = true → gx = true := by first | exact fun _ => rfl | exact id) (hgy : g = true → gy = true := by first | exact fun _ => rfl | exact id)
    (hw : k.wrap (a * b) = a * b := by first | exact wrap_i64 (by omega) (by omega) | exact wrap_u rfl (by omega) (by (try simp only [IntKind.bits]); omega))
    (h : Reg P r N D B all (i + 1) ops ((i, Ct.p gn [x, y] [(gx, .v (.int k a)), (gy, .v (.int k b))] (some d) (g, .v (.int k (a * b))) []) :: tr) (st ((d, (g, .v (.int k (a * b)))) :: E) L n) K) :
    Reg P r N D B all i (⟨some d, .binOp .mul t x y yt, ty, pos, aft, gd⟩ :: ops) tr (st E L n) K :=
  R.bin (run_mul t x y k a b hw) ho hg hx hy hgx hgy h
theorem R.mulW {t yt : Nat} {x y : Operand} {gx gy : Bool} {k : IntKind} {a b : Int} (ho : all[i]? = some ⟨some d, .binOp .mul t x y yt, ty, pos, aft, gd⟩ := by rfl) (hg : GuardOk (en E) all gd g gn := by first | exact gN | exact gS rfl rfl)
    (hx : lvOf (en E) x = some (gx, .v (.int k a)) := by rfl) (hy : lvOf (en E) y = some (gy, .v (.int k b)) := by rfl)
    (hgx : g = true → gx = true := by first | exact fun _ => rfl | exact id) (hgy : g = true → gy = true := by first | exact fun _ => rfl | exact id)
    (h : Reg P r N D B all (i + 1) ops ((i, Ct.p gn [x, y] [(gx, .v (.int k a)), (gy, .v (.int k b))] (some d) (g, .v (.int k (k.wrap (a * b)))) []) :: tr) (st ((d, (g, .v (.int k (k.wrap (a * b))))) :: E) L n) K) :
    Reg P r N D B all i (⟨some d, .binOp .mul t x y yt, ty, pos, aft, gd⟩ :: ops) tr (st E L n) K :=
  R.bin (run_mulW t x y k a b) ho hg hx hy hgx hgy h
theorem R.convI {s t : Nat} {x : Operand} {gx : Bool} {k k' : IntKind} {a : Int} {ds : TypeDesc} (hs : ∀ w, (underlying s).run P w = .ok ds w) (ht : ∀ w, (underlying t).run P w = .ok (.int k') w)
    (ho : all[i]? = some ⟨some d, .convert s t x, ty, pos, aft, gd⟩ := by rfl) (hg : GuardOk (en E) all gd g gn := by first | exact gN | exact gS rfl rfl)
    (hx : lvOf (en E) x = some (gx, .v (.int k a)) := by rfl) (hgx : g = true → gx = true := by first | exact fun _ => rfl | exact id)
    (hw : k'.wrap a = a := by first | exact wrap_i64 (by omega) (by omega) | exact wrap_u rfl (by omega) (by (try simp only [IntKind.bits]); omega))
    (h : Reg P r N D B all (i + 1) ops ((i, Ct.p gn [x] [(gx, .v (.int k a))] (some d) (g, .v (.int k' a)) []) :: tr) (st ((d, (g, .v (.int k' a))) :: E) L n) K) :
    Reg P r N D B all i (⟨some d, .convert s t x, ty, pos, aft, gd⟩ :: ops) tr (st E L n) K :=
  R.conv (by have := run_convI (P := P) (k := k) (a := a) hs ht; rwa [hw] at this) ho hg hx hgx h
theorem R.convW {s t : Nat} {x : Operand} {gx : Bool} {k k' : IntKind} {a : Int} {ds : TypeDesc} (hs : ∀ w, (underlying s).run P w = .ok ds w) (ht : ∀ w, (underlying t).run P w = .ok (.int k') w)
    (ho : all[i]? = some ⟨some d, .convert s t x, ty, pos, aft, gd⟩ := by rfl) (hg : GuardOk (en E) all gd g gn := by first | exact gN | exact gS rfl rfl)
    (hx : lvOf (en E) x = some (gx, .v (.int k a)) := by rfl) (hgx : g = true → gx = true := by first | exact fun _ => rfl | exact id)
    (h : Reg P r N D B all (i + 1) ops ((i, Ct.p gn [x] [(gx, .v (.int k a))] (some d) (g, .v (.int k' (k'.wrap a))) []) :: tr) (st ((d, (g, .v (.int k' (k'.wrap a)))) :: E) L n) K) :
    Reg P r N D B all i (⟨some d, .convert s t x, ty, pos, aft, gd⟩ :: ops) tr (st E L n) K :=
  R.conv (run_convI hs ht) ho hg hx hgx h

/-- the whole of a box is written -/
theorem R.storeA {T TB sz : Nat} (hF : AggF P T sz) {x y : Operand} {o : Nat} {cs ds : List LV}
    (ho : all[i]? = some ⟨none, .store T x y, ty, pos, aft, none⟩ := by rfl)
    (hx : lvOf (en E) x = some (true, .ptr o 0) := by rfl) (hy : lvOf (en E) y = some (true, .agg ds) := by rfl) (h1 : ds.all LV.one = true := by rfl) (hb : hp L o = some (.box TB cs) := by rfl) (hlt : cs.length = sz := by rfl) (hlt' : ds.length = sz := by rfl)
    (h : Reg P r N D B all (i + 1) ops ((i, ⟨needOf [x, y] [(true, .ptr o 0), (true, .agg ds)], none, (true, .v undef), [], [(o, .box TB cs)], [(o, .box TB ds)], []⟩) :: tr) (st E ((o, .box TB ds) :: L) n) K) :
    Reg P r N D B all i (⟨none, .store T x y, ty, pos, aft, none⟩ :: ops) tr (st E L n) K :=
  Reg.set (es := [(true, .ptr o 0), (true, .agg ds)]) (rd := []) ho gN ⟨_, _, rfl, hx, _, _, rfl, hy, rfl⟩ (by simp) hb (OpC.of_run (by simp) (by simp) fun md n0 cx H ρ w hok _ hHi _ hv => by
    obtain ⟨v1, v2⟩ := Vs.two hv
    simp only [entLV] at v1 v2
    have hob := hHi o (.box TB cs) (by simp)
    obtain ⟨hA, b', vs, k1, k2, k3⟩ := hok.ok o _ hob
    simp only [V] at v1 v2
    obtain ⟨_, b, hbk, he⟩ := v1
    obtain ⟨us, hu, hus⟩ := v2
    have hbk' := hbk
    rw [k1] at hbk
    simp only [bk, Option.some.injEq] at hbk
    subst hbk
    have hul : us.length = sz := hus.length.trans hlt'
    have hvl : vs.length = sz := k3.length.trans hlt
    have hst := run_storeCells_from (P := P) b' TB us 0 vs.toArray w k2 (by simp; omega) (Vs.ones h1 hus)
    simp only [List.take_zero, List.nil_append] at hst
    refine ⟨.skip, undef, w.setRow b' us.toArray, cx, ?_, .inr ⟨rfl, rfl⟩, Tr.set hok hob hbk' ⟨rfl, rfl, rfl⟩ (by simp [World.setRow]) (fun k hk => setRow_other w b' k _ hk) (fun hext => ?_), V.mkval⟩
    · simp [execOp, he, hu, Instr.storeAt, Instr.sureAddr, storeVar, Value.cells, hF.2 w, hul, hst]
    · exact ⟨b', us, k1, setRow_heap w b' _ _ TB (0, 0) k2, Vs.mono (CxLe.refl _) hext _ _ hus⟩) h

end

end Go.Proofs.YtnamkhifmankmaaDoor
