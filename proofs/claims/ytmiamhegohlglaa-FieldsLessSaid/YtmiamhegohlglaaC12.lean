/- Append; the length and the elements of a slice of one's own. -/
import Derived.Test.YtmiamhegohlglaaC11
set_option linter.unusedSimpArgs false
set_option linter.unusedVariables false
namespace Go.Proofs.Ytmiamhegohlglaa

theorem Tr.mdle {cx cx' : Cx} {w w' : World} {Hi Ho : Hp} {new : Nat → Prop} (t : Tr cx w (hp []) cx' w' Ho new) : Tr cx w Hi cx' w' Ho new := by
  have hno : ∀ b, ¬ blks cx (hp []) b := fun b ⟨o, x, hx, _⟩ => by simp at hx
  exact ⟨t.le, t.A, ⟨t.grow.os, t.grow.tape, t.grow.output, t.grow.size, fun b hb _ => t.grow.same b hb (hno b), fun b hb _ => t.grow.prs b hb (hno b), t.grow.ext⟩,
    ⟨t.heap.ok, fun o x b hx hb => by
      obtain ⟨h1, h2, h3⟩ := t.heap.own o x b hx hb
      exact ⟨h1, h2, h3.imp id (fun h => absurd h (hno b))⟩, t.heap.inj, t.heap.lim⟩, fun o ho _ => t.inn o ho rfl⟩

/-- what is appended: ys, as cells -/
def SrcOk (P : Program) (tx sz : Nat) (lv : LV) (rd : List (Nat × LO)) (ys : List (List LV)) : Prop :=
  (∀ e ∈ ys, e.length = sz) ∧ ∀ (md : Nat → Prop) (n0 : Nat) (cx : Cx) (H : Hp) (w : World) (v : Value), HOk md n0 cx H w → (∀ o x, hp rd o = some x → H o = some x) → V cx w lv v →
    ∃ news, Src P sz tx v ys.length news w ∧ Vs cx w ys.flatten news

theorem SrcOk.row {P : Program} {tx e' sz T o : Nat} {ys : List (List LV)} (hk : P.underlying tx = some (.slice e')) (hs : ∀ e ∈ ys, e.length = sz) : SrcOk P tx sz (.ref o) [(o, .row T sz ys)] ys := by
  refine ⟨hs, fun md n0 cx H w v hok hrd hv => ?_⟩
  obtain ⟨_, _, vs, hown, hvs, hone⟩ := hok.ok o _ (hrd o (.row T sz ys) (by simp))
  simp only [V] at hv
  obtain ⟨_, rfl, _⟩ := hv
  refine ⟨vs, ?_, hvs⟩
  rcases hown.2 with ⟨e1, e2⟩ | ⟨gb, cap, cur, e1, _, e2, e3, e4, e5, e6⟩
  · have : vs = [] := List.eq_nil_of_length_eq_zero (by rw [hown.1, e2]; simp)
    rw [e1, this, e2]
    exact Src.ofNil w hk 0
  · rw [e1]
    refine Src.ofSlice w hk ⟨gb, 0, none⟩ ys.length cap vs hown.1 (fun j u hu => ?_) hone
    have hadd : (⟨gb, 0, none⟩ : Addr).add j = ⟨gb, j, none⟩ := by unfold Addr.add; split <;> simp_all
    rw [hadd]
    rw [← e6, List.getElem?_take] at hu
    split at hu
    · simp [World.cell?, e2]; simpa using hu
    · cases hu

theorem VSR.vals {pr : Nat → Nat} {w : World} {b sz : Nat} : ∀ {xs : List (List SV)} {off : Nat}, VSR pr w b off sz xs →
    ∃ vs : List Value, vs.length = xs.length * sz ∧ (∀ (j : Nat) (v : Value), vs[j]? = some v → w.cell? ⟨b, off + j, none⟩ = some v) ∧ (∀ u ∈ vs, u.oneCell' = true) ∧
      ∀ (cx : Cx), cx.pr = pr → Vs cx w (xs.map (List.map LV.sv)).flatten vs
  | [], off, _ => ⟨[], by simp, by simp, by simp, fun cx _ => by simp [Vs]⟩
  | e :: xs, off, h => by
    simp only [VSR] at h
    obtain ⟨h1, h2, h3⟩ := h
    obtain ⟨us, k1, k2, k3⟩ := h2.vals
    obtain ⟨vs, g1, g2, g3, g4⟩ := VSR.vals h3
    have hul : us.length = sz := by rw [k1, h1]
    refine ⟨us ++ vs, by simp [hul, g1, Nat.add_mul]; omega, fun j v hj => ?_, fun u hu => ?_, fun cx hcx => ?_⟩
    · rcases Nat.lt_or_ge j us.length with hlt | hge
      · rw [List.getElem?_append_left hlt] at hj; exact k2 j v hj
      · rw [List.getElem?_append_right hge] at hj
        have := g2 _ v hj
        rwa [show off + sz + (j - us.length) = off + j from by omega] at this
    · rcases List.mem_append.1 hu with hu | hu
      · obtain ⟨j, hj⟩ := List.getElem?_of_mem hu
        have hjl : j < e.length := by rw [← k1]; exact (List.getElem?_eq_some_iff.1 hj).1
        exact (k3 j e[j] u (List.getElem?_eq_getElem hjl) hj).1
      · exact g3 u hu
    · simp only [List.map_cons, List.flatten_cons]
      exact Vs.append (Vs.of_vs k1 (fun j c v h1 h2 => by rw [hcx]; exact (k3 j c v h1 h2).2)) (g4 cx hcx)

theorem SrcOk.sl {P : Program} {tx e' sz : Nat} {ys : List (List SV)} (hk : P.underlying tx = some (.slice e')) (hs : ∀ e ∈ ys, e.length = sz) : SrcOk P tx sz (.sv (.sl sz ys)) [] (ys.map (List.map LV.sv)) := by
  refine ⟨fun e he => ?_, fun md n0 cx H w v hok hrd hv => ?_⟩
  · obtain ⟨e', he', rfl⟩ := List.mem_map.1 he; rw [List.length_map]; exact hs e' he'
  · simp only [V, VS] at hv
    rcases hv with ⟨rfl | ⟨ad, cap, rfl, _⟩, rfl⟩ | ⟨b, off, cap, rfl, _, _, hp', hr⟩
    · exact ⟨[], Src.ofNil w hk 0, by simp [Vs]⟩
    · exact ⟨[], Src.ofSlice w hk ad 0 cap [] (by simp) (by simp) (by simp), by simp [Vs]⟩
    · obtain ⟨vs, g1, g2, g3, g4⟩ := hr.vals
      refine ⟨vs, ?_, g4 cx rfl⟩
      rw [List.length_map]
      refine Src.ofSlice w hk ⟨b, off, none⟩ ys.length cap vs g1 (fun j u hu => ?_) g3
      have hadd : (⟨b, off, none⟩ : Addr).add j = ⟨b, off + j, none⟩ := by unfold Addr.add; split <;> simp_all
      rw [hadd]; exact g2 j u hu

def bytesL (l : List UInt8) : List (List LV) := l.map fun b => [.y b.toNat]
theorem bytesL_eq (l : List UInt8) : (bytesC l).map (List.map LV.sv) = bytesL l := by simp [bytesC, bytesL]
theorem bytesL_len (l : List UInt8) : ∀ e ∈ bytesL l, e.length = 1 := by simp [bytesL]
theorem bytesC_len (l : List UInt8) : ∀ e ∈ bytesC l, e.length = 1 := by simp [bytesC]

theorem SrcOk.str {P : Program} {tx : Nat} {s : ByteArray} (hk : P.underlying tx = some .string) : SrcOk P tx 1 (.s s) [] (bytesL s.data.toList) := by
  refine ⟨bytesL_len _, fun md n0 cx H w v hok hrd hv => ?_⟩
  have := hv.val
  subst this
  refine ⟨byteCells s, ?_, ?_⟩
  · have := Src.ofString (P := P) w hk s
    have hl : (bytesL s.data.toList).length = s.size := by simp [bytesL]
    rw [hl]; exact this
  · have : ∀ l : List UInt8, Vs cx w (bytesL l).flatten (l.map fun b => Value.int .u8 b.toNat) := by
      intro l
      induction l with
      | nil => simp [bytesL, Vs]
      | cons a l ih =>
        simp only [bytesL, List.map_cons, List.flatten_cons, List.cons_append, List.nil_append, Vs] at ih ⊢
        exact ⟨_, _, rfl, V.mkval, ih⟩
    exact this _

theorem run_append_room2 {P : Program} (w : World) (t tx ty e : TypeId) (i : TypeInfo) (ht : P.underlying t = some (.slice e)) (hi : P.info? e = some i) (g sLen sCap : Nat) (cur : Array Value) (hg : w.heap[g]? = some (.cells cur e (0, 0)))
    (x : Value) (n : Nat) (news : List Value) (hs : Src P i.size tx x n news w) (hroom : sLen + n ≤ sCap) (hfit : sLen * i.size + news.length ≤ cur.size) :
    (Builtin.append_ #[t, tx] ty #[.slice (some ⟨g, 0, none⟩) sLen sCap, x]).run P w = .ok (.slice (some ⟨g, 0, none⟩) (sLen + n) sCap) (w.setRow g (cur.toList.take (sLen * i.size) ++ news ++ cur.toList.drop (sLen * i.size + news.length)).toArray) := by
  have hst := run_storeCells_at P g (sLen * i.size) e news 0 cur w hg (by simpa using hfit) hs.one
  simp only [Nat.add_zero] at hst
  rcases hs.kind with ⟨e', hk⟩ | hk <;> simp [Builtin.append_, run_underlying ht, run_underlying hk, sizeOf, typeInfo, hi, hs.len, hroom, hs.cells, Addr.add_lit, hst]

section
variable {P : Program} {r : Option Nat} {N : Nat} {D : List Nat} {B : Base} {all : Array Oper} {K : List (Nat × Ct) → St → Prop}
variable {i : Nat} {ops : List Oper} {tr : List (Nat × Ct)} {E : List (Nat × Ent)} {L : List (Nat × LO)} {n : Nat} {g : Bool} {gn : List (Nat × Ent)}
variable {d ty : Nat} {pos : String} {aft : Array Edge} {gd : Option (Nat × Bool)}

theorem flatten_len {sz : Nat} {xs : List (List LV)} (h : ∀ e ∈ xs, e.length = sz) : xs.flatten.length = xs.length * sz := by
  rw [List.length_flatten]
  have : xs.map List.length = List.replicate xs.length sz := by
    rw [List.eq_replicate_iff]
    refine ⟨by simp, fun b hb => ?_⟩
    obtain ⟨e, he, rfl⟩ := List.mem_map.1 hb
    exact h e he
  rw [this]; simp

/-- append on a slice of one's own, by its value -/
theorem run_append {t tx e sz : Nat} (hF : AppF P t e sz) (h0 : 0 < sz) {md : Nat → Prop} {n0 : Nat} {cx : Cx} {H : Hp} {w : World} (hok : HOk md n0 cx H w) {o o' : Nat} {xs ys : List (List LV)} (ho : H o = some (.row e sz xs)) (hnew : ¬ cx.A o')
    {x : Value} {news : List Value} (hs : Src P sz tx x ys.length news w) (hys : ∀ e ∈ ys, e.length = sz) (hnv : Vs cx w ys.flatten news) (hlen : (xs.length + ys.length) * sz ≤ 4398046511104) (ty : Nat) :
    ∃ v w' cx', (Builtin.append_ #[t, tx] ty #[cx.loc o, x]).run P w = .ok v w' ∧ Tr cx w (hp [(o, .row e sz xs)]) cx' w' (hp [(o', .row e sz (xs ++ ys))]) (· ∈ [o']) ∧ V cx' w' (.ref o') v := by
  obtain ⟨ht, i0, z, hi, hz, hisz, hiby, hzs⟩ := hF.get
  subst hisz
  obtain ⟨hAo, hxs, vs, hown, hvs, hone⟩ := hok.ok o _ ho
  have hall : ∀ e ∈ xs ++ ys, e.length = i0.size := fun e he => (List.mem_append.1 he).elim (hxs e) (hys e)
  have hvall : Vs cx w (xs ++ ys).flatten (vs ++ news) := by rw [List.flatten_append]; exact Vs.append hvs hnv
  have hone' : ∀ u ∈ vs ++ news, u.oneCell' = true := fun u hu => (List.mem_append.1 hu).elim (hone u) (hs.one u)
  have hnl : news.length = ys.length * i0.size := hs.newsLen
  have hvl : vs.length = xs.length * i0.size := hown.1
  have hsum : xs.length + ys.length ≤ 4398046511104 := Nat.le_trans (by have := Nat.mul_le_mul_left (xs.length + ys.length) h0; omega) hlen
  have hbytes : (xs.length + ys.length) * i0.bytes ≤ 140737488355328 := by
    have h1 : (xs.length + ys.length) * i0.bytes ≤ (xs.length + ys.length) * (32 * i0.size) := Nat.mul_le_mul_left _ hiby
    have h2 : (xs.length + ys.length) * (32 * i0.size) = 32 * ((xs.length + ys.length) * i0.size) := by rw [Nat.mul_left_comm]
    omega
  -- a new block
  have grown : ∀ (base : Option Addr) (cap : Nat), cap < xs.length + ys.length → cx.loc o = .slice base xs.length cap → (Builtin.firstCells i0.size xs.length (.slice base xs.length cap)).run P w.drew = .ok vs.toArray w.drew →
      ∃ v w' cx', (Builtin.append_ #[t, tx] ty #[cx.loc o, x]).run P w = .ok v w' ∧ Tr cx w (hp [(o, .row e i0.size xs)]) cx' w' (hp [(o', .row e i0.size (xs ++ ys))]) (· ∈ [o']) ∧ V cx' w' (.ref o') v := by
    intro base cap hcap hloc hold
    have hrun := run_append_grow_src (P := P) w t tx ty e i0 z ht hi hz base xs.length cap vs hold x ys.length news hs hcap (by omega) (growslice_fits hcap hbytes)
    have hge := grownCap_ge w (xs.length + ys.length) cap e
    have hcm := grownCap_le_maxLen w (xs.length + ys.length) cap e (by unfold maxLen; omega)
    obtain ⟨cx', h1, h2⟩ := row_new (T := e) (w0 := w.drew) (xs := xs ++ ys) (vs := vs ++ news) (cells := (vs ++ news).toArray ++ Builtin.zeroCells z.cells (grownCap w (xs.length + ys.length) cap e - (xs.length + ys.length))) (cap := grownCap w (xs.length + ys.length) cap e)
      hok hnew ⟨rfl, rfl, rfl, rfl⟩ hall hvall hone' (by rw [List.length_append]; exact hge) hcm (by
        simp only [Array.size_append, List.size_toArray, size_zeroCells, hzs, List.length_append, hvl, hnl, ← Nat.add_mul]
        congr 1; omega) (by
        simp only [Array.toList_append, List.length_append]
        have : (xs.length + ys.length) * i0.size = (vs ++ news).length := by rw [List.length_append, hvl, hnl, Nat.add_mul]
        rw [this]; exact List.take_left)
    rw [hloc]
    rw [List.length_append] at h2
    exact ⟨_, _, cx', hrun, h1.mdle, h2⟩
  rcases hown.2 with ⟨e1, e2⟩ | ⟨gb, cap, cur, e1, _, e2, e3, e4, e5, e6⟩
  · -- nil
    have hv0 : vs = [] := List.eq_nil_of_length_eq_zero (by rw [hvl, e2]; simp)
    have hx0 : xs = [] := List.eq_nil_of_length_eq_zero e2
    by_cases hy0 : ys.length = 0
    · have hy : ys = [] := List.eq_nil_of_length_eq_zero hy0
      subst hy hx0 hv0
      have hn0 : news = [] := List.eq_nil_of_length_eq_zero (by rw [hnl]; simp)
      subst hn0
      let cx' : Cx := ⟨cx.pr, fun k => cx.A k ∨ k ∈ [o'], fun k => if k = o' then .slice none 0 0 else cx.loc k, cx.inn⟩
      have hle : CxLe cx cx' := fun k hk => ⟨.inl hk, by
        show (if k = o' then _ else cx.loc k) = _
        rw [if_neg (by rintro rfl; exact hnew hk)]⟩
      have hlo : cx'.loc o' = .slice none 0 0 := by show (if o' = o' then _ else _) = _; simp
      have hAo' : cx'.A o' := .inr (by simp)
      have one : ∀ k y, hp [(o', LO.row e i0.size ([] ++ []))] k = some y → k = o' ∧ y = .row e i0.size [] := by
        intro k y hy
        simp only [hp, List.lookup_cons] at hy
        split at hy
        · rename_i hh; simp at hh; cases hy; exact ⟨hh, rfl⟩
        · simp at hy
      refine ⟨.slice none 0 0, w, cx', ?_, ⟨hle, fun k => Iff.rfl, Grow.refl _ _ _, ⟨fun k y hy => ?_, fun k y b hy hb => ?_, fun k k' y y' b hne hy hy' _ => ?_, hok.lim⟩, fun _ _ _ => rfl⟩, ?_⟩
      · rw [e1]
        have hc0 := hs.cells
        simp only [List.length_nil] at hc0
        rcases hs.kind with ⟨e', hk⟩ | hk <;> simp [Builtin.append_, run_underlying ht, run_underlying hk, sizeOf, typeInfo, hi, hs.len, hc0]
      · obtain ⟨rfl, rfl⟩ := one k y hy
        exact ⟨hAo', by simp, [], by rw [hlo]; exact World.ownsRow_nil w 0 e i0.size, by simp [Vs], by simp⟩
      · obtain ⟨rfl, rfl⟩ := one k y hy
        rw [Cx.has_of rfl, hlo] at hb; cases hb
      · obtain ⟨rfl, rfl⟩ := one k y hy
        obtain ⟨rfl, rfl⟩ := one k' y' hy'
        exact absurd rfl hne
      · simp only [V]; exact ⟨hAo', hlo.symm, rfl⟩
    · refine grown none 0 (by omega) (by rw [e1, e2]) ?_
      subst hv0
      simp [Builtin.firstCells]
  · by_cases hroom : xs.length + ys.length ≤ cap
    · have hfit : xs.length * i0.size + news.length ≤ cur.size := by
        rw [hnl, e5, ← Nat.add_mul]; exact Nat.mul_le_mul_right _ hroom
      have hrun := run_append_room2 (P := P) w t tx ty e i0 ht hi gb xs.length cap cur e2 x ys.length news hs hroom hfit
      let w' := w.setRow gb (cur.toList.take (xs.length * i0.size) ++ news ++ cur.toList.drop (xs.length * i0.size + news.length)).toArray
      have hbk : bk (cx.loc o) = some gb := by rw [e1]; rfl
      obtain ⟨hpr, hlt, hmd⟩ := hok.own o _ gb ho (.inl hbk)
      let cx' : Cx := ⟨cx.pr, fun k => cx.A k ∨ k ∈ [o'], fun k => if k = o' then .slice (some ⟨gb, 0, none⟩) (xs.length + ys.length) cap else cx.loc k, cx.inn⟩
      have hle : CxLe cx cx' := fun k hk => ⟨.inl hk, by
        show (if k = o' then _ else cx.loc k) = _
        rw [if_neg (by rintro rfl; exact hnew hk)]⟩
      have hlo : cx'.loc o' = .slice (some ⟨gb, 0, none⟩) (xs.length + ys.length) cap := by show (if o' = o' then _ else _) = _; simp
      have hAo' : cx'.A o' := .inr (by simp)
      have hsame : ∀ k, k ≠ gb → w'.heap[k]? = w.heap[k]? := fun k hk => setRow_other w gb k _ hk
      have hsz : w'.heap.size = w.heap.size := by simp [w', World.setRow]
      have hext : Ext cx.pr w cx.pr w' := fun b off hb => ⟨hb, by
        have hb' : b ≠ gb := by rintro rfl; omega
        simp only [World.cell?, hsame b hb']⟩
      have hblk : blks cx (hp [(o, .row e i0.size xs)]) gb := ⟨o, .row e i0.size xs, by simp, .inl hbk⟩
      have one : ∀ k y, hp [(o', LO.row e i0.size (xs ++ ys))] k = some y → k = o' ∧ y = .row e i0.size (xs ++ ys) := by
        intro k y hy
        simp only [hp, List.lookup_cons] at hy
        split at hy
        · rename_i hh; simp at hh; cases hy; exact ⟨hh, rfl⟩
        · simp at hy
      refine ⟨_, w', cx', by rw [e1]; exact hrun, ⟨hle, fun k => Iff.rfl, ⟨rfl, rfl, rfl, by omega, fun k _ hk => hsame k (by rintro rfl; exact hk hblk), fun _ _ _ => rfl, hext⟩, ⟨fun k y hy => ?_, fun k y b hy hb => ?_, fun k k' y y' b hne hy hy' _ => ?_, fun b hb => by have := hok.lim b hb; omega⟩, fun _ _ _ => rfl⟩, ?_⟩
      · obtain ⟨rfl, rfl⟩ := one k y hy
        refine ⟨hAo', hall, vs ++ news, ⟨by rw [List.length_append, List.length_append, hvl, hnl, Nat.add_mul], .inr ⟨gb, cap, _, by rw [hlo, List.length_append], Nat.zero_le _, setRow_heap w gb cur _ e _ e2, by rw [List.length_append]; exact hroom, e4, ?_, ?_⟩⟩, Vs.mono hle hext _ _ hvall, hone'⟩
        · simp only [List.size_toArray, List.length_append, List.length_take, List.length_drop, Array.length_toList]
          omega
        · rw [e6]
          have : (xs ++ ys).length * i0.size = (vs ++ news).length := by rw [List.length_append, List.length_append, hvl, hnl, Nat.add_mul]
          rw [this]; exact List.take_left
      · obtain ⟨rfl, rfl⟩ := one k y hy
        rw [Cx.has_of rfl, hlo] at hb; cases hb
        exact ⟨hpr, by rw [hsz]; exact hlt, .inr hblk⟩
      · obtain ⟨rfl, rfl⟩ := one k y hy
        obtain ⟨rfl, rfl⟩ := one k' y' hy'
        exact absurd rfl hne
      · simp only [V]; exact ⟨hAo', hlo.symm, rfl⟩
    · refine grown (some ⟨gb, 0, none⟩) cap (by omega) e1 ?_
      refine run_firstCells_some (P := P) w.drew i0.size xs.length ⟨gb, 0, none⟩ xs.length cap vs hvl (fun j u hu => ?_)
      have hadd : (⟨gb, 0, none⟩ : Addr).add j = ⟨gb, j, none⟩ := by unfold Addr.add; split <;> simp_all
      rw [hadd]
      rw [← e6, List.getElem?_take] at hu
      split at hu
      · have e2' : w.drew.heap[gb]? = some (.cells cur e (0, 0)) := e2
        simp [World.cell?, e2']; simpa using hu
      · cases hu

theorem updL_app (L : List (Nat × LO)) (o n : Nat) (x y : LO) : hp (updL L [(o, x)] [(n, y)]) = hp ((n, y) :: delL o L) := by
  funext k
  simp only [updL, delL, hp, List.map_cons, List.map_nil, List.cons_append, List.nil_append, List.lookup_cons]
  cases (k == n) with
  | true => rfl
  | false =>
    simp only []
    congr 2
    funext p
    by_cases hpo : p.1 = o <;> simp [hpo]

theorem R.append {t tx e sz : Nat} (hF : AppF P t e sz) {x y : Operand} {o : Nat} {xs ys : List (List LV)} {lv : LV} {rd : List (Nat × LO)}
    (ho : all[i]? = some ⟨some d, .call { callee := .builtin .append, args := #[x, y], argTypes := #[t, tx] }, ty, pos, aft, none⟩ := by rfl)
    (hx : lvOf (en E) x = some (true, .ref o) := by rfl) (hy : lvOf (en E) y = some (true, lv) := by rfl) (hb : hp L o = some (.row e sz xs) := by rfl)
    (hs : SrcOk P tx sz lv rd ys) (hrd : ∀ k x, hp rd k = some x → hp L k = some x) (h0 : 0 < sz := by decide) (hlen : (xs.length + ys.length) * sz ≤ 4398046511104)
    (h : Reg P r N D B all (i + 1) ops ((i, ⟨needOf [x, y] [(true, .ref o), (true, lv)], some d, (true, .ref n), rd, [(o, .row e sz xs)], [(n, .row e sz (xs ++ ys))], [n]⟩) :: tr) (st ((d, (true, .ref n)) :: E) ((n, .row e sz (xs ++ ys)) :: delL o L) (n + 1)) K) :
    Reg P r N D B all i (⟨some d, .call { callee := .builtin .append, args := #[x, y], argTypes := #[t, tx] }, ty, pos, aft, none⟩ :: ops) tr (st E L n) K := by
  refine Reg.gen (m := 1) (es := [(true, .ref o), (true, lv)]) (rd := rd) (Hi := [(o, .row e sz xs)]) (Ho := [(n, .row e sz (xs ++ ys))]) (out := .ref n) ho gN ⟨_, _, rfl, hx, _, _, rfl, hy, rfl⟩ hrd (fun k z hz => ?_) ?_ ?_
  · simp only [hp, List.lookup_cons] at hz
    split at hz
    · rename_i hh; simp at hh; cases hz; subst hh; exact hb
    · simp at hz
  · refine OpC.of_run (by simp) (by simp) fun md n0 cx H ρ w hok hrd' hHi hnew hv => ?_
    have hop : (Oper.mk (some d) (.call { callee := .builtin .append, args := #[x, y], argTypes := #[t, tx] }) ty pos aft none).op.operands.toList = [x, y] := rfl
    rw [hop] at hv
    obtain ⟨v1, v2⟩ := Vs.two hv
    simp only [entLV] at v1 v2
    obtain ⟨news, hsrc, hnv⟩ := hs.2 md n0 cx H w _ hok hrd' v2
    simp only [V] at v1
    obtain ⟨v, w', cx', h1, h2, h3⟩ := run_append (o' := n) hF h0 hok (hHi o (.row e sz xs) (by simp)) (hnew n (by simp)) hsrc hs.1 hnv hlen ty
    refine ⟨_, v, w', cx', ?_, .inl rfl, h2, h3⟩
    have hx' : ρ x = cx.loc o := v1.2.1
    simp [execOp, resolve, invoke, builtin, hx', h1]
  · have e1 : st (putL (some d) (true, .ref n) E) (updL L [(o, .row e sz xs)] [(n, .row e sz (xs ++ ys))]) (n + 1) = st ((d, (true, .ref n)) :: E) ((n, .row e sz (xs ++ ys)) :: delL o L) (n + 1) := by
      simp only [st, updL_app, putL]
    rw [e1]; exact h

/-- the nil slice, told as a slice of one's own that is empty -/
theorem LGo.nilRow {Ψ : Exit → Act → World → Prop} {todo : List Item} (t T sz : Nat) (ht : en E t = some (true, .v (.slice none 0 0)))
    (h : LGo P r N D B Ψ todo (st ((t, (true, .ref n)) :: E) ((n, .row T sz []) :: L) (n + 1))) : LGo P r N D B Ψ todo (st E L n) := by
  refine LGo.conv (fun cx a w hr => ?_) h
  have hA : ¬ cx.A n := by rw [hr.hA]; show ¬ n < n; omega
  let cx' : Cx := ⟨cx.pr, fun k => cx.A k ∨ k = n, fun k => if k = n then .slice none 0 0 else cx.loc k, cx.inn⟩
  have hle : CxLe cx cx' := fun k hk => ⟨.inl hk, by
    show (if k = n then _ else cx.loc k) = _
    rw [if_neg (by rintro rfl; exact hA hk)]⟩
  have hlo : cx'.loc n = .slice none 0 0 := by show (if n = n then _ else _) = _; simp
  have hext : Ext cx.pr w cx'.pr w := Ext.refl _ _
  have split : ∀ q x, hp ((n, .row T sz []) :: L) q = some x → (q = n ∧ x = .row T sz []) ∨ (q ≠ n ∧ hp L q = some x) := by
    intro q x hx
    simp only [hp, List.lookup_cons] at hx
    split at hx
    · rename_i hh; simp at hh; cases hx; exact .inl ⟨hh, rfl⟩
    · rename_i hh; simp at hh; exact .inr ⟨hh, hx⟩
  have old : ∀ q x, hp L q = some x → ∀ b, cx'.has q x b ↔ cx.has q x b := fun q x hx b => by unfold Cx.has; rw [(hle q (hr.heap.ok q x hx).1).2]
  refine ⟨cx', ⟨hr.grow, hr.le.trans hle, ?_, ⟨fun q x hx => ?_, fun q x b hx hb => ?_, fun q q' x x' b hne hx hx' hb => ?_, hr.heap.lim⟩, hr.size, fun s e he => ?_, ?_, fun o ho => .inl (hr.dA o ho)⟩⟩
  · funext k
    have : cx.A k ↔ k < n := by rw [hr.hA]
    exact propext ⟨fun h => by
      rcases h with h | h
      · have := this.1 h; show k < n + 1; omega
      · show k < n + 1; omega, fun h => by
      have h' : k < n + 1 := h
      rcases Nat.lt_or_ge k n with h1 | h1
      · exact .inl (this.2 h1)
      · exact .inr (by omega)⟩
  · rcases split q x hx with ⟨rfl, rfl⟩ | ⟨hq, hx'⟩
    · exact ⟨.inr rfl, by simp, [], by rw [hlo]; exact World.ownsRow_nil w 0 T sz, by simp [Vs], by simp⟩
    · obtain ⟨k1, k2⟩ := hr.heap.ok q x hx'
      exact ⟨.inl k1, ObjOk.mono hle hext k1 (fun _ _ _ => rfl) rfl k2⟩
  · rcases split q x hx with ⟨rfl, rfl⟩ | ⟨hq, hx'⟩
    · rw [Cx.has_of rfl, hlo] at hb; cases hb
    · rw [old q x hx'] at hb; exact hr.heap.own q x b hx' hb
  · rcases split q x hx with ⟨rfl, rfl⟩ | ⟨hq, hx1⟩
    · rw [Cx.has_of rfl, hlo] at hb; cases hb
    · rcases split q' x' hx' with ⟨rfl, rfl⟩ | ⟨hq', hx1'⟩
      · rw [Cx.has_of rfl, hlo]; simp [bk]
      · rw [old q x hx1] at hb; rw [old q' x' hx1']; exact hr.heap.inj q q' x x' b hne hx1 hx1' hb
  · simp only [en, List.lookup_cons] at he
    split at he
    · rename_i hh
      simp at hh
      cases he
      subst hh
      refine ⟨fun _ => ?_, fun h => by cases h⟩
      have := (hr.env s _ ht).1 rfl
      simp only [V, VS] at this ⊢
      rw [this]
      exact ⟨.inr rfl, hlo.symm, rfl⟩
    · exact (hr.env s e he).mono hle hext
  · rw [hr.df]
    exact List.map_congr_left (fun o ho => by simp only [mkd]; rw [(hle o (hr.dA o ho)).2])

end

end Go.Proofs.Ytmiamhegohlglaa
