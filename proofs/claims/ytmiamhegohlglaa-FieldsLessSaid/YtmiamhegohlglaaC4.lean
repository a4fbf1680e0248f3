/- Contracts of functions on logical states: what a call takes and leaves; how a contract is proved by the walk, and how it is used at a call. -/
import Derived.Test.YtmiamhegohlglaaC3
import Derived.RangeFuncLeaves
import Derived.RangeFuncRecord
import Derived.RangeFuncIn
set_option linter.unusedSimpArgs false
set_option linter.unusedVariables false
namespace Go.Proofs.Ytmiamhegohlglaa

/-! ### renaming objects -/

mutual
def LV.mapI (σ : Nat → Nat) : LV → LV
  | .sv s => .sv s
  | .agg cs => .agg (LV.mapIs σ cs)
  | .tup cs => .tup (LV.mapIs σ cs)
  | .ptr o off => .ptr (σ o) off
  | .ref o => .ref (σ o)
  | .fn f p q => .fn f (LV.mapIs σ p) (LV.mapIs σ q)
  | .yld o => .yld (σ o)
def LV.mapIs (σ : Nat → Nat) : List LV → List LV
  | [] => []
  | c :: cs => LV.mapI σ c :: LV.mapIs σ cs
end
mutual
def LV.lt (m : Nat) : LV → Bool
  | .sv _ => true
  | .agg cs => LV.lts m cs
  | .tup cs => LV.lts m cs
  | .ptr o _ => decide (o < m)
  | .ref o => decide (o < m)
  | .fn _ p q => LV.lts m p && LV.lts m q
  | .yld o => decide (o < m)
def LV.lts (m : Nat) : List LV → Bool
  | [] => true
  | c :: cs => LV.lt m c && LV.lts m cs
end

mutual
theorem V.ren {cx1 cx2 : Cx} {w : World} {σ : Nat → Nat} (hp : cx1.pr = cx2.pr) (h : ∀ o, cx1.A o → cx2.A (σ o) ∧ cx2.loc (σ o) = cx1.loc o) :
    ∀ (l : LV) (x : Value), V cx1 w l x → V cx2 w (l.mapI σ) x
  | .sv s, x, hv => by simp only [V, LV.mapI] at hv ⊢; rw [← hp]; exact hv
  | .agg cs, x, hv => by simp only [V, LV.mapI] at hv ⊢; obtain ⟨vs, h1, h2⟩ := hv; exact ⟨vs, h1, Vs.ren hp h cs vs h2⟩
  | .tup cs, x, hv => by simp only [V, LV.mapI] at hv ⊢; obtain ⟨vs, h1, h2⟩ := hv; exact ⟨vs, h1, Vs.ren hp h cs vs h2⟩
  | .ptr o off, x, hv => by
    simp only [V, LV.mapI] at hv ⊢
    obtain ⟨h1, b, h2, h3⟩ := hv
    exact ⟨(h o h1).1, b, by rw [(h o h1).2]; exact h2, h3⟩
  | .ref o, x, hv => by
    simp only [V, LV.mapI] at hv ⊢
    obtain ⟨h1, h2⟩ := hv
    exact ⟨(h o h1).1, by rw [(h o h1).2]; exact h2⟩
  | .fn f p q, x, hv => by
    simp only [V, LV.mapI] at hv ⊢
    obtain ⟨us, vs, h1, h2, h3⟩ := hv
    exact ⟨us, vs, h1, Vs.ren hp h p us h2, Vs.ren hp h q vs h3⟩
  | .yld o, x, hv => by
    simp only [V, LV.mapI] at hv ⊢
    obtain ⟨h1, b, h2, h3⟩ := hv
    exact ⟨(h o h1).1, b, by rw [(h o h1).2]; exact h2, h3⟩
theorem Vs.ren {cx1 cx2 : Cx} {w : World} {σ : Nat → Nat} (hp : cx1.pr = cx2.pr) (h : ∀ o, cx1.A o → cx2.A (σ o) ∧ cx2.loc (σ o) = cx1.loc o) :
    ∀ (l : List LV) (x : List Value), Vs cx1 w l x → Vs cx2 w (LV.mapIs σ l) x
  | [], x, hv => by simpa [Vs, LV.mapIs] using hv
  | c :: cs, x, hv => by
    simp only [Vs, LV.mapIs] at hv ⊢
    obtain ⟨y, r, h1, h2, h3⟩ := hv
    exact ⟨y, r, h1, V.ren hp h c y h2, Vs.ren hp h cs r h3⟩
end
mutual
theorem V.unren {cx1 cx2 : Cx} {w : World} {σ : Nat → Nat} {m : Nat} (hp : cx1.pr = cx2.pr) (h : ∀ o, o < m → cx1.A o ∧ cx1.loc o = cx2.loc (σ o)) :
    ∀ (l : LV) (x : Value), l.lt m = true → V cx2 w (l.mapI σ) x → V cx1 w l x
  | .sv s, x, _, hv => by simp only [V, LV.mapI] at hv ⊢; rw [hp]; exact hv
  | .agg cs, x, hl, hv => by simp only [V, LV.mapI] at hv ⊢; obtain ⟨vs, h1, h2⟩ := hv; exact ⟨vs, h1, Vs.unren hp h cs vs (by simpa [LV.lt] using hl) h2⟩
  | .tup cs, x, hl, hv => by simp only [V, LV.mapI] at hv ⊢; obtain ⟨vs, h1, h2⟩ := hv; exact ⟨vs, h1, Vs.unren hp h cs vs (by simpa [LV.lt] using hl) h2⟩
  | .ptr o off, x, hl, hv => by
    simp only [V, LV.mapI] at hv ⊢
    obtain ⟨_, b, h2, h3⟩ := hv
    have := h o (by simpa [LV.lt] using hl)
    exact ⟨this.1, b, by rw [this.2]; exact h2, h3⟩
  | .ref o, x, hl, hv => by
    simp only [V, LV.mapI] at hv ⊢
    have := h o (by simpa [LV.lt] using hl)
    exact ⟨this.1, by rw [this.2]; exact hv.2⟩
  | .fn f p q, x, hl, hv => by
    simp only [V, LV.mapI] at hv ⊢
    obtain ⟨us, vs, h1, h2, h3⟩ := hv
    simp only [LV.lt, Bool.and_eq_true] at hl
    exact ⟨us, vs, h1, Vs.unren hp h p us hl.1 h2, Vs.unren hp h q vs hl.2 h3⟩
  | .yld o, x, hl, hv => by
    simp only [V, LV.mapI] at hv ⊢
    obtain ⟨_, b, h2, h3⟩ := hv
    have := h o (by simpa [LV.lt] using hl)
    exact ⟨this.1, b, by rw [this.2]; exact h2, h3⟩
theorem Vs.unren {cx1 cx2 : Cx} {w : World} {σ : Nat → Nat} {m : Nat} (hp : cx1.pr = cx2.pr) (h : ∀ o, o < m → cx1.A o ∧ cx1.loc o = cx2.loc (σ o)) :
    ∀ (l : List LV) (x : List Value), LV.lts m l = true → Vs cx2 w (LV.mapIs σ l) x → Vs cx1 w l x
  | [], x, _, hv => by simpa [Vs, LV.mapIs] using hv
  | c :: cs, x, hl, hv => by
    simp only [Vs, LV.mapIs] at hv ⊢
    simp only [LV.lts, Bool.and_eq_true] at hl
    obtain ⟨y, r, h1, h2, h3⟩ := hv
    exact ⟨y, r, h1, V.unren hp h c y hl.1 h2, Vs.unren hp h cs r hl.2 h3⟩
end

theorem mapIs_append (σ : Nat → Nat) : ∀ (l l' : List LV), LV.mapIs σ (l ++ l') = LV.mapIs σ l ++ LV.mapIs σ l'
  | [], l' => by simp [LV.mapIs]
  | c :: cs, l' => by simp [LV.mapIs, mapIs_append σ cs l']
theorem lts_append (m : Nat) : ∀ (l l' : List LV), LV.lts m (l ++ l') = (LV.lts m l && LV.lts m l')
  | [], l' => by simp [LV.lts]
  | c :: cs, l' => by simp [LV.lts, lts_append m cs l', Bool.and_assoc]
theorem mapIs_flatten (σ : Nat → Nat) : ∀ (xs : List (List LV)), LV.mapIs σ xs.flatten = (xs.map (LV.mapIs σ)).flatten
  | [] => by simp [LV.mapIs]
  | x :: xs => by simp [mapIs_append, mapIs_flatten σ xs]
theorem lts_flatten (m : Nat) : ∀ (xs : List (List LV)), LV.lts m xs.flatten = xs.all (LV.lts m)
  | [] => by simp [LV.lts]
  | x :: xs => by simp [lts_append, lts_flatten m xs]
theorem mapIs_length (σ : Nat → Nat) : ∀ (l : List LV), (LV.mapIs σ l).length = l.length
  | [] => by simp [LV.mapIs]
  | c :: cs => by simp [LV.mapIs, mapIs_length σ cs]

def mapE (σ : Nat → Nat) (E : List (Nat × Bool × LV)) : List (Nat × Bool × LV) := E.map fun p => (p.1, p.2.1, p.2.2.mapI σ)
theorem mapE_lookup (σ : Nat → Nat) : ∀ {E : List (Nat × Bool × LV)} {t : Nat} {e : Bool × LV}, (mapE σ E).lookup t = some e → ∃ e0, E.lookup t = some e0 ∧ e = (e0.1, e0.2.mapI σ)
  | [], t, e, h => by simp [mapE] at h
  | (k, (g, x)) :: E, t, e, h => by
    simp only [mapE, List.map_cons, List.lookup_cons] at h ⊢
    split at h
    · rename_i hh; cases h; exact ⟨(g, x), rfl, rfl⟩
    · exact mapE_lookup σ h
theorem lookup_mapE (σ : Nat → Nat) : ∀ {E : List (Nat × Bool × LV)} {t : Nat} {e : Bool × LV}, E.lookup t = some e → (mapE σ E).lookup t = some (e.1, e.2.mapI σ)
  | [], t, e, h => by simp at h
  | (k, (g, x)) :: E, t, e, h => by
    simp only [mapE, List.map_cons, List.lookup_cons] at h ⊢
    split at h
    · cases h; rfl
    · exact lookup_mapE σ h
theorem lookup_mem' {α : Type} : ∀ {l : List (Nat × α)} {o : Nat} {x : α}, l.lookup o = some x → (o, x) ∈ l
  | [], o, x, h => by simp at h
  | (k, v) :: l, o, x, h => by
    simp only [List.lookup_cons] at h
    split at h
    · rename_i hh; simp at hh; subst hh; cases h; simp
    · exact List.mem_cons_of_mem _ (lookup_mem' h)

def LO.mapI (σ : Nat → Nat) : LO → LO
  | .box T cs => .box T (LV.mapIs σ cs)
  | .row T sz xs => .row T sz (xs.map (LV.mapIs σ))
  | .rs T sz ys => .rs T sz ys
  | .bx T cs k Te sz ys => .bx T (LV.mapIs σ cs) k Te sz ys
  | .raw x => .raw x
  | .loop fn N E ps a b st pd => .loop fn N (mapE σ E) ps a b st pd
def LO.lt (m : Nat) : LO → Bool
  | .box _ cs => LV.lts m cs
  | .row _ _ xs => xs.all (LV.lts m)
  | .rs _ _ _ => true
  | .bx _ cs _ _ _ _ => LV.lts m cs
  | .raw _ => true
  | .loop _ _ E _ _ _ _ _ => E.all fun p => p.2.2.lt m

theorem mapIs_sv (σ : Nat → Nat) : ∀ l : List SV, LV.mapIs σ (l.map LV.sv) = l.map LV.sv
  | [] => rfl
  | s :: l => by simp only [List.map_cons, LV.mapIs, LV.mapI, mapIs_sv σ l]
theorem lts_sv (m : Nat) : ∀ l : List SV, LV.lts m (l.map LV.sv) = true
  | [] => rfl
  | s :: l => by simp only [List.map_cons, LV.lts, LV.lt, lts_sv m l, Bool.and_self]

theorem mapIs_set (σ : Nat → Nat) : ∀ (cs : List LV) (k : Nat) (s : SV), LV.mapIs σ (cs.set k (.sv s)) = (LV.mapIs σ cs).set k (.sv s)
  | [], k, s => by simp [LV.mapIs]
  | c :: cs, 0, s => by simp [LV.mapIs, LV.mapI]
  | c :: cs, k + 1, s => by simp only [List.set_cons_succ, LV.mapIs, mapIs_set σ cs k s]
theorem lts_set (m : Nat) : ∀ (cs : List LV) (k : Nat) (s : SV), LV.lts m cs = true → LV.lts m (cs.set k (.sv s)) = true
  | [], k, s, _ => by simp [LV.lts]
  | c :: cs, 0, s, h => by simp only [LV.lts, Bool.and_eq_true] at h; simp [LV.lts, LV.lt, h.2]
  | c :: cs, k + 1, s, h => by simp only [LV.lts, Bool.and_eq_true] at h; simp [LV.lts, h.1, lts_set m cs k s h.2]
theorem mapI_isBx (σ : Nat → Nat) (x : LO) : (x.mapI σ).isBx = x.isBx := by cases x <;> rfl

theorem has_map {cx1 cx2 : Cx} {σ : Nat → Nat} {o : Nat} (hl : cx1.loc o = cx2.loc (σ o)) (hi : cx1.inn o = cx2.inn (σ o)) {x : LO} {b : Nat} (h : cx1.has o x b) : cx2.has (σ o) (x.mapI σ) b := by
  unfold Cx.has at h ⊢
  rw [mapI_isBx, ← hl, ← hi]; exact h

theorem ObjOk.ren {cx1 cx2 : Cx} {w : World} {σ : Nat → Nat} (hp : cx1.pr = cx2.pr) (h : ∀ o, cx1.A o → cx2.A (σ o) ∧ cx2.loc (σ o) = cx1.loc o)
    {o : Nat} {x : LO} (ho : cx1.A o) (hi : cx2.inn (σ o) = cx1.inn o) (hx : ObjOk cx1 w o x) : ObjOk cx2 w (σ o) (x.mapI σ) := by
  have hl := (h o ho).2
  cases x with
  | box T cs => obtain ⟨b, vs, h1, h2, h3⟩ := hx; exact ⟨b, vs, by rw [hl]; exact h1, h2, Vs.ren hp h _ _ h3⟩
  | row T sz xs =>
    obtain ⟨h1, vs, h2, h3, h4⟩ := hx
    refine ⟨fun e he => ?_, vs, ?_, ?_, h4⟩
    · obtain ⟨e', he', rfl⟩ := List.mem_map.1 he; rw [mapIs_length]; exact h1 e' he'
    · rw [hl, List.length_map]; exact h2
    · rw [← mapIs_flatten]; exact Vs.ren hp h _ _ h3
  | rs T sz ys =>
    obtain ⟨h1, vs, h2, h3, h4⟩ := hx
    exact ⟨h1, vs, by rw [hl]; exact h2, by have := Vs.ren hp h _ _ h3; rwa [mapIs_sv] at this, h4⟩
  | bx T cs k Te sz ys =>
    obtain ⟨b, vs, v, h1, h2, h3, h4, h5, h5', h5'', h6, us, h7, h8, h9⟩ := hx
    exact ⟨b, vs, v, by rw [hl]; exact h1, h2, by have := Vs.ren hp h _ _ h3; rwa [mapIs_set] at this, by rw [mapIs_length]; exact h4, by rw [hi]; exact h5, h5', h5'', h6, us, h7, by have := Vs.ren hp h _ _ h8; rwa [mapIs_sv] at this, h9⟩
  | raw x => obtain ⟨b, h1, h2⟩ := hx; exact ⟨b, by rw [hl]; exact h1, h2⟩
  | loop fn N E ps a b st pd =>
    obtain ⟨l, T, df, h1, h2, h3, h4⟩ := hx
    refine ⟨l, T, df, by rw [hl]; exact h1, h2, h3, fun t e he => ?_⟩
    obtain ⟨e0, g1, rfl⟩ := mapE_lookup σ he
    have := h4 t e0 g1
    exact ⟨fun hg => V.ren hp h _ _ (this.1 hg), this.2⟩

theorem ObjOk.unren {cx1 cx2 : Cx} {w : World} {σ : Nat → Nat} {m : Nat} (hp : cx1.pr = cx2.pr) (h : ∀ o, o < m → cx1.A o ∧ cx1.loc o = cx2.loc (σ o))
    {o : Nat} {x : LO} (ho : o < m) (hm : x.lt m = true) (hi : cx1.inn o = cx2.inn (σ o)) (hx : ObjOk cx2 w (σ o) (x.mapI σ)) : ObjOk cx1 w o x := by
  have hl := (h o ho).2
  cases x with
  | box T cs => obtain ⟨b, vs, h1, h2, h3⟩ := hx; exact ⟨b, vs, by rw [hl]; exact h1, h2, Vs.unren hp h _ _ hm h3⟩
  | row T sz xs =>
    obtain ⟨h1, vs, h2, h3, h4⟩ := hx
    refine ⟨fun e he => ?_, vs, ?_, ?_, h4⟩
    · have := h1 (LV.mapIs σ e) (List.mem_map.2 ⟨e, he, rfl⟩); rwa [mapIs_length] at this
    · rw [hl]; rw [List.length_map] at h2; exact h2
    · rw [← mapIs_flatten] at h3; exact Vs.unren hp h _ _ (by rw [lts_flatten]; exact hm) h3
  | rs T sz ys =>
    obtain ⟨h1, vs, h2, h3, h4⟩ := hx
    exact ⟨h1, vs, by rw [hl]; exact h2, Vs.unren hp h _ _ (lts_sv _ _) (by rw [mapIs_sv]; exact h3), h4⟩
  | bx T cs k Te sz ys =>
    obtain ⟨b, vs, v, h1, h2, h3, h4, h5, h5', h5'', h6, us, h7, h8, h9⟩ := hx
    exact ⟨b, vs, v, by rw [hl]; exact h1, h2, Vs.unren hp h _ _ (lts_set _ _ _ _ hm) (by rw [mapIs_set]; exact h3), by rw [mapIs_length] at h4; exact h4, by rw [hi]; exact h5, h5', h5'', h6, us, h7, Vs.unren hp h _ _ (lts_sv _ _) (by rw [mapIs_sv]; exact h8), h9⟩
  | raw x => obtain ⟨b, h1, h2⟩ := hx; exact ⟨b, by rw [hl]; exact h1, h2⟩
  | loop fn N E ps a b st pd =>
    obtain ⟨l, T, df, h1, h2, h3, h4⟩ := hx
    refine ⟨l, T, df, by rw [hl]; exact h1, h2, h3, fun t e he => ?_⟩
    have := h4 t _ (lookup_mapE σ he)
    exact ⟨fun hg => V.unren hp h _ _ (List.all_eq_true.1 hm (t, e) (lookup_mem' he)) (this.1 hg), this.2⟩

/-! ### the contract of a function -/

/-- a call of f enters f's own text -/
def Entr (P : Program) (f : FuncId) : Prop := ∀ (args : Array Value) (w : World), (callFunc f args).run P w = .ok (.enter f args) w

structure LC (P : Program) (f : FuncId) (m : Nat) (lvs : List LV) (Hi : List (Nat × LO)) (out : LV) (Ho : List (Nat × LO)) (k : Nat) : Prop where
  entr : Entr P f
  args : LV.lts m lvs = true
  rng : Hi.map (·.1) = List.range m
  hlt : ∀ p ∈ Hi, p.2.lt m = true
  hos : ∀ p ∈ Ho, p.1 ∈ Hi.map (·.1) ∨ (m ≤ p.1 ∧ p.1 < m + k)
  go : ∀ (cx : Cx) (w : World) (vs : List Value), (∀ o, cx.A o ↔ o < m) → HOk (fun _ => True) 0 cx (hp Hi) w → Vs cx w lvs vs →
    Calls P f vs.toArray w fun e w' => ∃ v cx', e = .returned v ∧ Tr cx w (hp Hi) cx' w' (hp Ho) (fun o => m ≤ o ∧ o < m + k) ∧ V cx' w' out v

theorem LC.his {P : Program} {f : FuncId} {m : Nat} {lvs : List LV} {Hi : List (Nat × LO)} {out : LV} {Ho : List (Nat × LO)} {k : Nat} (h : LC P f m lvs Hi out Ho k) :
    ∀ p ∈ Hi, p.1 < m ∧ p.2.lt m = true := fun p hp' => ⟨by
      have : p.1 ∈ Hi.map (·.1) := List.mem_map.2 ⟨p, hp', rfl⟩
      rw [h.rng] at this; simpa using this, h.hlt p hp'⟩

theorem lookup_of_nodup {α : Type} : ∀ {l : List (Nat × α)} {k : Nat} {v : α}, (l.map (·.1)).Nodup → (k, v) ∈ l → l.lookup k = some v
  | [], k, v, _, h => by simp at h
  | (a, b) :: l, k, v, hn, h => by
    simp only [List.map_cons, List.nodup_cons] at hn
    simp only [List.lookup_cons]
    rcases List.mem_cons.1 h with h' | h'
    · cases h'; simp
    · have hne : (k == a) = false := by
        simp only [beq_eq_false_iff_ne]
        rintro rfl
        exact hn.1 (List.mem_map.2 ⟨(k, v), h', rfl⟩)
      rw [hne]; exact lookup_of_nodup hn.2 h'

def FnPost (P : Program) (fn : Func) (B : Base) (m : Nat) (out : LV) (Hi Ho : List (Nat × LO)) (k : Nat) : Exit → Act → World → Prop := fun e a w =>
  (e = .normal ∨ e = .ret) ∧ LeavesInM Fence.wide 0 P fn a.tmps (fun e' w' => ∃ v cx', e' = .returned v ∧ ((∀ o, B.cx.A o → hp Hi o ≠ none) → Tr B.cx B.w (hp Hi) cx' w' (hp Ho) (fun o => m ≤ o ∧ o < m + k)) ∧ V cx' w' out v) a.defers .returning w

def zipE : Nat → List LV → List (Nat × Ent)
  | _, [] => []
  | i, l :: ls => (i, (true, l)) :: zipE (i + 1) ls

theorem zipE_lookup : ∀ (ls : List LV) (i t : Nat) (e : Ent), (zipE i ls).lookup t = some e → ∃ l, i ≤ t ∧ ls[t - i]? = some l ∧ e = (true, l)
  | [], i, t, e, h => by simp [zipE] at h
  | l :: ls, i, t, e, h => by
    simp only [zipE, List.lookup_cons] at h
    split at h
    · rename_i hh; simp at hh; subst hh; cases h; exact ⟨l, Nat.le_refl _, by simp, rfl⟩
    · rename_i hh
      obtain ⟨l', h1, h2, h3⟩ := zipE_lookup ls (i + 1) t e h
      refine ⟨l', by omega, ?_, h3⟩
      rw [show t - i = (t - (i + 1)) + 1 from by omega]
      simpa using h2

theorem Rel.mk0 {N : Nat} {lvs : List LV} {Hi : List (Nat × LO)} {m : Nat} {cx : Cx} {w : World} {vs : List Value} (hA : ∀ o, cx.A o ↔ o < m)
    (hh : HOk (fun _ => True) 0 cx (hp Hi) w) (hv : Vs cx w lvs vs) (hN : lvs.length ≤ N) :
    Rel ⟨cx, w, blks cx (hp Hi)⟩ N [] (st (zipE 0 lvs) Hi m) cx { tmps := vs.toArray ++ Array.replicate (N - vs.toArray.size) undef, defers := [] } w := by
  have hlen := hv.length
  refine ⟨Grow.refl _ _ _, CxLe.refl _, funext fun o => propext (hA o), ⟨hh.ok, fun o x b hx hb => ?_, hh.inj, hh.lim⟩, ?_, ?_, rfl, by simp⟩
  · obtain ⟨h1, h2, _⟩ := hh.own o x b hx hb
    exact ⟨h1, h2, .inr ⟨o, x, hx, hb⟩⟩
  · simp; omega
  · intro t e he
    obtain ⟨l, _, h2, rfl⟩ := zipE_lookup lvs 0 t e he
    simp only [Nat.sub_zero] at h2
    obtain ⟨v, hv1, hv2⟩ := hv.get h2
    refine ⟨fun _ => ?_, fun h => by cases h⟩
    have : (vs.toArray ++ Array.replicate (N - vs.toArray.size) undef).getD t undef = v := by
      have hlt : t < vs.length := (List.getElem?_eq_some_iff.1 hv1).1
      rw [Array.getD_eq_getD_getElem?, Array.getElem?_append_left (by simpa using hlt)]
      simp [hv1]
    rw [this]; exact hv2

theorem hp_range {Hi : List (Nat × LO)} {m o : Nat} (rng : Hi.map (·.1) = List.range m) (ho : o < m) : hp Hi o ≠ none := by
  intro hn
  have hm : o ∈ Hi.map (·.1) := by rw [rng]; simpa using ho
  clear rng
  induction Hi with
  | nil => simp at hm
  | cons p l ih =>
    obtain ⟨k, v⟩ := p
    simp only [hp, List.lookup_cons] at hn
    split at hn
    · cases hn
    · rename_i hk
      simp at hk
      simp only [List.map_cons, List.mem_cons] at hm
      rcases hm with hm | hm
      · exact hk hm
      · exact ih hn hm

theorem LC.of_go {P : Program} {f : FuncId} {fn : Func} {c : Code} {m k : Nat} {lvs : List LV} {Hi Ho : List (Nat × LO)} {out : LV}
    (hf : P.funcs[f]? = some fn) (hb : fn.body = some c) (hname : (fn.name == "runtime.NumGoroutine") = false) (hN : lvs.length ≤ fn.ntmps)
    (args : LV.lts m lvs = true) (rng : Hi.map (·.1) = List.range m) (hlt : ∀ p ∈ Hi, p.2.lt m = true) (hos : ∀ p ∈ Ho, p.1 ∈ Hi.map (·.1) ∨ (m ≤ p.1 ∧ p.1 < m + k))
    (h : ∀ B : Base, (∀ o, B.cx.A o ↔ o < m) → B.md = blks B.cx (hp Hi) → LGo P none fn.ntmps [] B (FnPost P fn B m out Hi Ho k) [.code c] (st (zipE 0 lvs) Hi m)) :
    LC P f m lvs Hi out Ho k := by
  refine ⟨fun as w => ?_, args, rng, hlt, hos, fun cx w vs hA hh hv => ?_⟩
  · simp only [callFunc, Sem.run_bind, Sem.run_pure, Result.andThen_ok]
    have hn' : ¬ fn.name = "runtime.NumGoroutine" := by simpa using hname
    simp [program, Sem.run, hf, hn', hb]
  · refine (callsIn_wide (n := 0)).1 (callsIn_of_wp_marks hf hb trivial ?_ rfl)
    have hrel := Rel.mk0 (N := fn.ntmps) hA hh hv hN
    intro b k' cs hro _ _
    obtain ⟨e, a', w', ⟨he, hl⟩, harr⟩ := (h ⟨cx, w, blks cx (hp Hi)⟩ hA rfl).go cx _ w hrel b k' cs hro
    refine ⟨e, a', w', ?_, harr⟩
    have hne : ∀ o, cx.A o → hp Hi o ≠ none := fun o ho => hp_range rng ((hA o).1 ho)
    simp only [forall_prop_of_true hne] at hl
    rcases he with rfl | rfl
    · exact hl
    · exact hl

/-- the end of a function: what it hands back, and the objects that it leaves -/
theorem FnPost.of {P : Program} {fn : Func} {B : Base} {m k N : Nat} {out : LV} {Hi Ho : List (Nat × LO)} {E : List (Nat × Ent)} {L : List (Nat × LO)}
    (hA : ∀ o, B.cx.A o ↔ o < m) (hmd : B.md = blks B.cx (hp Hi)) (hHo : ∀ o x, hp Ho o = some x → hp L o = some x) {e : Exit} (he : e = .normal ∨ e = .ret)
    {cx : Cx} {a : Act} {w : World} (hr : Rel B N [] (st E L (m + k)) cx a w) {v : Value} (hv : (results fn a.tmps).run P w = .ok v w) (hvo : V cx w out v) :
    FnPost P fn B m out Hi Ho k e a w := by
  refine ⟨he, ?_⟩
  rw [show a.defers = [] from hr.df]
  refine ⟨v, hv, v, cx, rfl, fun hne => ⟨hr.le, fun o => ?_, by rw [← hmd]; exact hr.grow, ⟨fun o x hx => hr.heap.ok o x (hHo o x hx), fun o x b hx hb => by rw [← hmd]; exact hr.heap.own o x b (hHo o x hx) hb, fun o o' x x' b hne hx hx' hb => hr.heap.inj o o' x x' b hne (hHo o x hx) (hHo o' x' hx') hb, hr.heap.lim⟩, fun o ho hn => absurd hn (hne o ho)⟩, hvo⟩
  rw [hr.hA, hA]
  show o < m + k ↔ _
  omega

/-! ### a call -/

theorem callsIn_FW {P : Program} {r : Option Nat} {n : Nat} {f : FuncId} {args : Array Value} {w : World} {R : Ending → World → Prop} (h : Calls P f args w R) : CallsIn (FW r) n P f args w R := by
  have h' := (callsIn_wide (n := n)).2 h
  exact ⟨trivial, fun cs hr => h'.2 cs (room_wide _)⟩

/-- names at a call: the callee's names 0, 1, .. are ids' entries, its new ones follow n -/
def sg (ids : List Nat) (n : Nat) (o : Nat) : Nat := ids.getD o (n + (o - ids.length))

/-- the contract of something that is entered with values -/
structure LCG (C : List Value → World → (Ending → World → Prop) → Prop) (m : Nat) (lvs : List LV) (Hi : List (Nat × LO)) (out : LV) (Ho : List (Nat × LO)) (k : Nat) : Prop where
  args : LV.lts m lvs = true
  rng : Hi.map (·.1) = List.range m
  hlt : ∀ p ∈ Hi, p.2.lt m = true
  hos : ∀ p ∈ Ho, p.1 ∈ Hi.map (·.1) ∨ (m ≤ p.1 ∧ p.1 < m + k)
  go : ∀ (cx : Cx) (w : World) (vs : List Value), (∀ o, cx.A o ↔ o < m) → HOk (fun _ => True) 0 cx (hp Hi) w → Vs cx w lvs vs →
    C vs w fun e w' => ∃ v cx', e = .returned v ∧ Tr cx w (hp Hi) cx' w' (hp Ho) (fun o => m ≤ o ∧ o < m + k) ∧ V cx' w' out v

theorem LCG.his {C : List Value → World → (Ending → World → Prop) → Prop} {m : Nat} {lvs : List LV} {Hi : List (Nat × LO)} {out : LV} {Ho : List (Nat × LO)} {k : Nat} (h : LCG C m lvs Hi out Ho k) :
    ∀ p ∈ Hi, p.1 < m ∧ p.2.lt m = true := fun p hp' => ⟨by
      have : p.1 ∈ Hi.map (·.1) := List.mem_map.2 ⟨p, hp', rfl⟩
      rw [h.rng] at this; simpa using this, h.hlt p hp'⟩

open Classical in
theorem LCG.use {C : List Value → World → (Ending → World → Prop) → Prop} {ids : List Nat} {lvs : List LV} {Hi Ho : List (Nat × LO)} {out : LV} {k n : Nat} (h : LCG C ids.length lvs Hi out Ho k)
    (hC : ∀ vs w R R', C vs w R → (∀ e w', R e w' → R' e w') → C vs w R')
    (hinj : ids.Nodup) {md : Nat → Prop} {n0 : Nat} {cx : Cx} {H : Hp} {w : World} {vs : List Value} (hok : HOk md n0 cx H w) (hids : ∀ o ∈ ids, cx.A o)
    (hHi : ∀ p ∈ Hi, H (sg ids n p.1) = some (p.2.mapI (sg ids n)))
    (hnew : ∀ i ∈ List.range' n k, ¬ cx.A i) (hv : Vs cx w (LV.mapIs (sg ids n) lvs) vs) :
    C vs w fun e w' => ∃ v cx', e = .returned v ∧
      Tr cx w (hp (Hi.map fun p => (sg ids n p.1, p.2.mapI (sg ids n)))) cx' w' (hp (Ho.map fun p => (sg ids n p.1, p.2.mapI (sg ids n)))) (· ∈ List.range' n k) ∧ V cx' w' (out.mapI (sg ids n)) v := by
  -- the callee's own view
  have hsg : ∀ o, o < ids.length → sg ids n o ∈ ids := by
    intro o ho
    simp only [sg, List.getD_eq_getElem?_getD, List.getElem?_eq_getElem ho, Option.getD_some]
    exact List.getElem_mem ho
  have hsgn : ∀ o, ids.length ≤ o → sg ids n o = n + (o - ids.length) := by
    intro o ho
    simp [sg, List.getD_eq_getElem?_getD, List.getElem?_eq_none ho]
  have hsginj : ∀ o o', o < ids.length → o' < ids.length → sg ids n o = sg ids n o' → o = o' := by
    intro o o' ho ho' he
    simp only [sg, List.getD_eq_getElem?_getD, List.getElem?_eq_getElem ho, List.getElem?_eq_getElem ho', Option.getD_some] at he
    rcases Nat.lt_trichotomy o o' with hlt | heq | hlt
    · exact absurd he (List.pairwise_iff_getElem.1 hinj o o' ho ho' hlt)
    · exact heq
    · exact absurd he.symm (List.pairwise_iff_getElem.1 hinj o' o ho' ho hlt)
  let c1 : Cx := ⟨cx.pr, fun o => o < ids.length, fun o => cx.loc (sg ids n o), fun o => cx.inn (sg ids n o)⟩
  have h1 : ∀ o, o < ids.length → c1.A o ∧ c1.loc o = cx.loc (sg ids n o) := fun o ho => ⟨ho, rfl⟩
  have mem_of : ∀ o x, hp Hi o = some x → (o, x) ∈ Hi := by
    intro o x hx
    clear hHi h
    induction Hi with
    | nil => simp at hx
    | cons p l ih =>
      obtain ⟨k', v'⟩ := p
      simp only [hp, List.lookup_cons] at hx
      split at hx
      · rename_i hh; simp at hh; subst hh; cases hx; simp
      · exact List.mem_cons_of_mem _ (ih hx)
  have has1 : ∀ o x b, c1.has o x b → cx.has (sg ids n o) (x.mapI (sg ids n)) b := by
    rintro o x b (hb | ⟨hb, hb'⟩)
    · exact .inl hb
    · exact .inr ⟨by rw [mapI_isBx]; exact hb, hb'⟩
  have hok1 : HOk (fun _ => True) 0 c1 (hp Hi) w := by
    refine ⟨fun o x hx => ?_, fun o x b hx hb => ?_, fun o o' x x' b hne hx hx' hb hb' => ?_, hok.lim⟩
    · have hm := mem_of o x hx
      obtain ⟨k1, k2⟩ := h.his _ hm
      exact ⟨k1, ObjOk.unren (cx1 := c1) (cx2 := cx) rfl h1 k1 k2 rfl (hok.ok _ _ (hHi _ hm)).2⟩
    · have hm := mem_of o x hx
      have := hok.own _ _ b (hHi _ hm) (has1 o x b hb)
      exact ⟨this.1, this.2.1, .inr trivial⟩
    · have hm := mem_of o x hx
      have hm' := mem_of o' x' hx'
      have hne' : sg ids n o ≠ sg ids n o' := fun e => hne (hsginj o o' (h.his _ hm).1 (h.his _ hm').1 e)
      exact hok.inj _ _ _ _ b hne' (hHi _ hm) (hHi _ hm') (has1 o x b hb) (has1 o' x' b hb')
  have hv1 : Vs c1 w lvs vs := Vs.unren (cx1 := c1) (cx2 := cx) rfl h1 lvs vs h.args hv
  refine hC _ _ _ _ (h.go c1 w vs (fun o => Iff.rfl) hok1 hv1) ?_
  rintro e w' ⟨v, c2, rfl, t, hvo⟩
  -- and back
  have hnA : ∀ o, cx.A o → ¬ (n ≤ o ∧ o < n + k) := fun o ho hn => hnew o (by simp [List.mem_range'_1, hn.1, hn.2]) ho
  have sgI : ∀ a b, c2.A a → c2.A b → sg ids n a = sg ids n b → a = b := by
    intro a b ha hb he
    rcases (t.A a).1 ha with h1 | h1 <;> rcases (t.A b).1 hb with h2 | h2
    · exact hsginj a b h1 h2 he
    · exfalso
      have := hsgn b h2.1
      exact hnA _ (hids _ (hsg a h1)) (by rw [he, this]; omega)
    · exfalso
      have := hsgn a h1.1
      exact hnA _ (hids _ (hsg b h2)) (by rw [← he, this]; omega)
    · have e1 := hsgn a h1.1
      have e2 := hsgn b h2.1
      rw [e1, e2] at he; omega
  let c3 : Cx := ⟨c2.pr, fun o => cx.A o ∨ o ∈ List.range' n k, fun o => if n ≤ o ∧ o < n + k then c2.loc (ids.length + (o - n)) else cx.loc o,
    fun o => if h : ∃ o', c2.A o' ∧ sg ids n o' = o then c2.inn (Classical.choose h) else cx.inn o⟩
  have hinn3 : ∀ o, c2.A o → c3.inn (sg ids n o) = c2.inn o := by
    intro o ho
    have hex : ∃ o', c2.A o' ∧ sg ids n o' = sg ids n o := ⟨o, ho, rfl⟩
    show (if h : ∃ o', c2.A o' ∧ sg ids n o' = sg ids n o then c2.inn (Classical.choose h) else cx.inn (sg ids n o)) = _
    rw [dif_pos hex]
    have hsp := Classical.choose_spec hex
    rw [sgI _ _ hsp.1 ho hsp.2]
  have hle : CxLe cx c3 := by
    intro o ho
    refine ⟨.inl ho, ?_⟩
    show (if n ≤ o ∧ o < n + k then c2.loc (ids.length + (o - n)) else cx.loc o) = _
    rw [if_neg (hnA o ho)]
  have hren : ∀ o, c2.A o → c3.A (sg ids n o) ∧ c3.loc (sg ids n o) = c2.loc o := by
    intro o ho
    rcases (t.A o).1 ho with hlt | ⟨hge, hlt⟩
    · have hlt' : o < ids.length := hlt
      refine ⟨.inl (hids _ (hsg o hlt')), ?_⟩
      show (if n ≤ sg ids n o ∧ sg ids n o < n + k then _ else cx.loc (sg ids n o)) = _
      rw [if_neg (hnA _ (hids _ (hsg o hlt')))]
      exact ((t.le o hlt).2).symm
    · rw [hsgn o hge]
      refine ⟨.inr (by simp [List.mem_range'_1]; omega), ?_⟩
      show (if n ≤ n + (o - ids.length) ∧ n + (o - ids.length) < n + k then c2.loc (ids.length + (n + (o - ids.length) - n)) else _) = _
      rw [if_pos (by omega)]
      congr 1; omega
  have lk : ∀ (l : List (Nat × LO)) (o : Nat) (x : LO), hp (l.map fun p => (sg ids n p.1, p.2.mapI (sg ids n))) o = some x → (∀ p ∈ l, c2.A p.1) → ∃ o' x', hp l o' = some x' ∧ sg ids n o' = o ∧ x = x'.mapI (sg ids n) ∧ c2.A o' := by
    intro l
    have sginj2 : ∀ a b, c2.A a → c2.A b → sg ids n a = sg ids n b → a = b := by
      intro a b ha hb he
      rcases (t.A a).1 ha with h1 | h1 <;> rcases (t.A b).1 hb with h2 | h2
      · exact hsginj a b h1 h2 he
      · exfalso
        have := hsgn b h2.1
        exact hnA _ (hids _ (hsg a h1)) (by rw [he, this]; omega)
      · exfalso
        have := hsgn a h1.1
        exact hnA _ (hids _ (hsg b h2)) (by rw [← he, this]; omega)
      · have e1 := hsgn a h1.1
        have e2 := hsgn b h2.1
        rw [e1, e2] at he; omega
    induction l with
    | nil => intro o x hx _; simp at hx
    | cons p l ih =>
      obtain ⟨k', v'⟩ := p
      intro o x hx hA
      simp only [hp, List.map_cons, List.lookup_cons] at hx
      split at hx
      · rename_i hh
        simp at hh
        cases hx
        exact ⟨k', v', by simp, hh.symm, rfl, hA (k', v') (by simp)⟩
      · rename_i hh
        obtain ⟨o', x', g1, g2, g3, g4⟩ := ih o x hx (fun p hp => hA p (List.mem_cons_of_mem _ hp))
        refine ⟨o', x', ?_, g2, g3, g4⟩
        simp only [hp, List.lookup_cons]
        have : (o' == k') = false := by
          simp only [beq_eq_false_iff_ne]
          rintro rfl
          simp [g2] at hh
        rw [this]; exact g1
  have hHoA : ∀ p ∈ Ho, c2.A p.1 := by
    intro p hpm
    rw [t.A]
    rcases h.hos p hpm with hh | hh
    · obtain ⟨q, hq, he⟩ := List.mem_map.1 hh
      exact .inl (by rw [← he]; exact (h.his q hq).1)
    · exact .inr hh
  have hHiA : ∀ p ∈ Hi, c2.A p.1 := fun p hpm => (t.A _).2 (.inl (h.his p hpm).1)
  have hkeys : (Hi.map fun p => (sg ids n p.1, p.2.mapI (sg ids n))).map (·.1) = ids := by
    rw [List.map_map]
    have : ((fun (x : Nat × LO) => x.1) ∘ fun (p : Nat × LO) => (sg ids n p.1, p.2.mapI (sg ids n))) = (sg ids n) ∘ (fun (p : Nat × LO) => p.1) := rfl
    rw [this, ← List.map_map, h.rng]
    apply List.ext_getElem
    · simp
    · intro q h1 h2
      simp only [List.getElem_map, List.getElem_range]
      simp [sg, List.getD_eq_getElem?_getD, h2]
  have blk_iff : ∀ b, blks c1 (hp Hi) b → blks cx (hp (Hi.map fun p => (sg ids n p.1, p.2.mapI (sg ids n)))) b := by
    rintro b ⟨o, x, hx, hb⟩
    have hm := mem_of o x hx
    exact ⟨sg ids n o, x.mapI (sg ids n), lookup_of_nodup (by rw [hkeys]; exact hinj) (List.mem_map.2 ⟨(o, x), hm, rfl⟩), has1 o x b hb⟩
  have has3 : ∀ o x b, c2.A o → (c3.has (sg ids n o) (x.mapI (sg ids n)) b ↔ c2.has o x b) := by
    intro o x b ho
    unfold Cx.has
    rw [mapI_isBx, (hren o ho).2, hinn3 o ho]
  refine ⟨v, c3, rfl, ⟨hle, fun o => Iff.rfl, ?_, ?_, fun o ho hn => ?_⟩, V.ren (cx1 := c2) (cx2 := c3) rfl hren out v hvo⟩
  · exact ⟨t.grow.os, t.grow.tape, t.grow.output, t.grow.size, fun b hb hn => t.grow.same b hb (fun hh => hn (blk_iff b hh)), fun b hb hn => t.grow.prs b hb (fun hh => hn (blk_iff b hh)), t.grow.ext⟩
  · refine ⟨fun o x hx => ?_, fun o x b hx hb => ?_, fun o o' x x' b hne hx hx' hb hb' => ?_, t.heap.lim⟩
    · obtain ⟨o', x', g1, rfl, rfl, g4⟩ := lk _ _ _ hx hHoA
      obtain ⟨a1, a2⟩ := t.heap.ok o' x' g1
      exact ⟨(hren o' g4).1, ObjOk.ren (cx1 := c2) (cx2 := c3) rfl hren a1 (hinn3 o' g4) a2⟩
    · obtain ⟨o', x', g1, rfl, rfl, g4⟩ := lk _ _ _ hx hHoA
      rw [has3 o' x' b g4] at hb
      obtain ⟨a1, a2, a3⟩ := t.heap.own o' x' b g1 hb
      exact ⟨a1, a2, a3.imp id (blk_iff b)⟩
    · obtain ⟨o1, x1, g1, rfl, rfl, g4⟩ := lk _ _ _ hx hHoA
      obtain ⟨o2, x2, k1, rfl, rfl, k4⟩ := lk _ _ _ hx' hHoA
      rw [has3 o1 x1 b g4] at hb
      rw [has3 o2 x2 b k4] at hb'
      exact t.heap.inj o1 o2 x1 x2 b (fun e => hne (by rw [e])) g1 k1 hb hb'
  · have hno : ¬ ∃ o', c2.A o' ∧ sg ids n o' = o := by
      rintro ⟨o', ho', rfl⟩
      rcases (t.A o').1 ho' with hlt | ⟨hge, hlt⟩
      · have hlt' : o' < ids.length := hlt
        have hmem : sg ids n o' ∈ (Hi.map fun p => (sg ids n p.1, p.2.mapI (sg ids n))).map (·.1) := by rw [hkeys]; exact hsg o' hlt'
        obtain ⟨q, hq, hqe⟩ := List.mem_map.1 hmem
        have := lookup_of_nodup (l := Hi.map fun p => (sg ids n p.1, p.2.mapI (sg ids n))) (k := q.1) (v := q.2) (by rw [hkeys]; exact hinj) hq
        rw [hqe] at this
        rw [show hp (Hi.map fun p => (sg ids n p.1, p.2.mapI (sg ids n))) (sg ids n o') = some q.2 from this] at hn
        cases hn
      · exact hnA _ ho (by rw [hsgn o' hge]; omega)
    show (if h : ∃ o', c2.A o' ∧ sg ids n o' = o then c2.inn (Classical.choose h) else cx.inn o) = _
    rw [dif_neg hno]

theorem LC.use {P : Program} {f : FuncId} {ids : List Nat} {lvs : List LV} {Hi Ho : List (Nat × LO)} {out : LV} {k n : Nat} (h : LC P f ids.length lvs Hi out Ho k)
    (hinj : ids.Nodup) {md : Nat → Prop} {n0 : Nat} {cx : Cx} {H : Hp} {w : World} {vs : List Value} (hok : HOk md n0 cx H w) (hids : ∀ o ∈ ids, cx.A o)
    (hHi : ∀ p ∈ Hi, H (sg ids n p.1) = some (p.2.mapI (sg ids n)))
    (hnew : ∀ i ∈ List.range' n k, ¬ cx.A i) (hv : Vs cx w (LV.mapIs (sg ids n) lvs) vs) :
    Calls P f vs.toArray w fun e w' => ∃ v cx', e = .returned v ∧
      Tr cx w (hp (Hi.map fun p => (sg ids n p.1, p.2.mapI (sg ids n)))) cx' w' (hp (Ho.map fun p => (sg ids n p.1, p.2.mapI (sg ids n)))) (· ∈ List.range' n k) ∧ V cx' w' (out.mapI (sg ids n)) v :=
  LCG.use (C := fun vs w R => Calls P f vs.toArray w R) ⟨h.args, h.rng, h.hlt, h.hos, h.go⟩ (fun _ _ _ _ hc hr => hc.mono hr) hinj hok hids hHi hnew hv

end Go.Proofs.Ytmiamhegohlglaa
