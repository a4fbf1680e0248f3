/- A contract at other readings of its arguments; the nil slice as an argument. -/
import Derived.Test.YtmiamhegohlglaaC30
import Derived.Laws.Small
import Derived.Laws.CopyRow
set_option linter.unusedSimpArgs false
set_option linter.unusedVariables false
namespace Go.Proofs.Ytmiamhegohlglaa

theorem PC.args {P : Program} {f : FuncId} {lvs lvs' : List LV} {out : LV} (h : PC P f lvs out) (hl : LV.lts 0 lvs' = true) (hv : ∀ cx w vs, Vs cx w lvs' vs → Vs cx w lvs vs) : PC P f lvs' out :=
  ⟨⟨h.lc.entr, hl, h.lc.rng, h.lc.hlt, h.lc.hos, fun cx w vs hA hH hvs => h.lc.go cx w vs hA hH (hv cx w vs hvs)⟩⟩
theorem V_nilSl {cx : Cx} {w : World} {v : Value} (sz : Nat) (h : V cx w (.v (.slice none 0 0)) v) : V cx w (.sv (.sl sz [])) v := by
  simp only [V, VS] at h ⊢
  exact .inl ⟨.inl h, trivial⟩
theorem PC.nil1 {P : Program} {f : FuncId} {a : LV} {out : LV} {sz : Nat} (h : PC P f [a, .sv (.sl sz [])] out) (ha : a.lt 0 = true := by rfl) : PC P f [a, .v (.slice none 0 0)] out :=
  h.args (by simp [LV.lts, ha, LV.lt]) fun cx w vs hv => by
    simp only [Vs] at hv ⊢
    obtain ⟨v1, r1, rfl, h1, v2, r2, rfl, h2, h3⟩ := hv
    exact ⟨v1, _, rfl, h1, v2, _, rfl, V_nilSl sz h2, h3⟩
theorem PC.nil0 {P : Program} {f : FuncId} {b : LV} {out : LV} {sz : Nat} (h : PC P f [.sv (.sl sz []), b] out) (hb : b.lt 0 = true := by rfl) : PC P f [.v (.slice none 0 0), b] out :=
  h.args (by simp [LV.lts, hb, LV.lt]) fun cx w vs hv => by
    simp only [Vs] at hv ⊢
    obtain ⟨v1, r1, rfl, h1, v2, r2, rfl, h2, h3⟩ := hv
    exact ⟨v1, _, rfl, V_nilSl sz h1, v2, _, rfl, h2, h3⟩

section
variable {P : Program} {r : Option Nat} {N : Nat} {D : List Nat} {B : Base} {Ψ : Exit → Act → World → Prop} {todo : List Item}
variable {E : List (Nat × Ent)} {L : List (Nat × LO)} {n : Nat}
/-- an entry that is true -/
theorem LGo.tru (t : Nat) {g b : Bool} (ht : en E t = some (g, .b b) := by rfl) (hb : b = true := by simp) (h : LGo P r N D B Ψ todo (st ((t, (g, .b true)) :: E) L n)) : LGo P r N D B Ψ todo (st E L n) := by
  subst hb
  exact LGo.re t _ ht (fun _ _ _ hv => hv) h
theorem run_eqlB {t : Nat} (ht : P.underlying t = some .bool) (x y : Operand) (a b : Bool) : ∀ w, (do eqGuard .eql t x y (.bool a) (.bool b); binOp .eql t (.bool a) (.bool b) : Sem Value).run P w = .ok (.bool (decide (a = b))) w := by
  intro w
  have := run_equal_bool (P := P) w t a b ht
  cases a <;> cases b <;> simp_all [eqGuard, binOp]
theorem run_neqB {t : Nat} (ht : P.underlying t = some .bool) (x y : Operand) (a b : Bool) : ∀ w, (do eqGuard .neq t x y (.bool a) (.bool b); binOp .neq t (.bool a) (.bool b) : Sem Value).run P w = .ok (.bool (!decide (a = b))) w := by
  intro w
  have := run_equal_bool (P := P) w t a b ht
  cases a <;> cases b <;> simp_all [eqGuard, binOp]
end

theorem flat_set {sz : Nat} : ∀ (xs : List (List SV)) (j : Nat) (ev : List SV), (∀ e ∈ xs, e.length = sz) → ev.length = sz → j < xs.length → (xs.set j ev).flatten = xs.flatten.take (j * sz) ++ ev ++ xs.flatten.drop (j * sz + sz)
  | [], j, _, _, _, h => by simp at h
  | x :: xs, 0, ev, hs, _, _ => by
    have hx := hs x (by simp)
    rw [List.set_cons_zero, List.flatten_cons, List.flatten_cons, Nat.zero_mul, List.take_zero, List.nil_append, Nat.zero_add, ← hx, List.drop_left]
  | x :: xs, j + 1, ev, hs, he, h => by
    have hx := hs x (by simp)
    have ih := flat_set xs j ev (fun e h' => hs e (by simp [h'])) he (by simpa using h)
    rw [List.set_cons_succ, List.flatten_cons, List.flatten_cons, ih, show (j + 1) * sz = sz + j * sz from by rw [Nat.succ_mul]; omega, ← hx, List.take_length_add_append, show x.length + j * x.length + x.length = x.length + (j * x.length + x.length) from by omega, List.drop_length_add_append]
    simp
theorem set_lens {sz : Nat} {xs : List (List SV)} {ev : List SV} (hs : ∀ e ∈ xs, e.length = sz) (he : ev.length = sz) (j : Nat) : ∀ e ∈ xs.set j ev, e.length = sz := fun e h => by
  rcases List.mem_or_eq_of_mem_set h with h | rfl
  · exact hs e h
  · exact he
theorem Vs.splits {cx : Cx} {w : World} : ∀ (k : Nat) (l : List LV) (x : List Value), Vs cx w l x → Vs cx w (l.take k) (x.take k) ∧ Vs cx w (l.drop k) (x.drop k)
  | 0, l, x, h => ⟨by simp [Vs], by simpa using h⟩
  | k + 1, [], x, h => by
    simp only [Vs] at h
    subst h
    simp [Vs]
  | k + 1, c :: l, x, h => by
    simp only [Vs] at h
    obtain ⟨y, r, rfl, h1, h2⟩ := h
    obtain ⟨i1, i2⟩ := Vs.splits k l r h2
    refine ⟨?_, by simpa using i2⟩
    rw [List.take_succ_cons, List.take_succ_cons]
    simp only [Vs]
    exact ⟨y, _, rfl, h1, i1⟩

section
variable {P : Program} {r : Option Nat} {N : Nat} {D : List Nat} {B : Base} {all : Array Oper} {K : List (Nat × Ct) → St → Prop}
variable {i : Nat} {ops : List Oper} {tr : List (Nat × Ct)} {E : List (Nat × Ent)} {L : List (Nat × LO)} {n : Nat}
variable {ty : Nat} {pos : String} {aft : Array Edge}
/-- a whole element of a slice of one's own is written -/
theorem R.storeRsN {T e sz : Nat} (hF : AggF P T sz) {x y : Operand} {o off : Nat} {xs : List (List SV)} {ds : List LV} (j : Nat) (ev : List SV)
    (ho : all[i]? = some ⟨none, .store T x y, ty, pos, aft, none⟩ := by rfl)
    (hx : lvOf (en E) x = some (true, .ptr o off) := by rfl) (hy : lvOf (en E) y = some (true, .agg ds) := by rfl) (hd : ds = ev.map LV.sv := by rfl) (h1 : (ev.map LV.sv).all LV.one = true := by simp [LV.one]) (hb : hp L o = some (.rs e sz xs) := by rfl) (he : ev.length = sz := by rfl)
    (hj : j < xs.length) (hoff : off = j * sz := by omega) (h0 : 0 < sz := by decide)
    (h : Reg P r N D B all (i + 1) ops ((i, ⟨needOf [x, y] [(true, .ptr o off), (true, .agg ds)], none, (true, .v undef), [], [(o, .rs e sz xs)], [(o, .rs e sz (xs.set j ev))], []⟩) :: tr) (st E ((o, .rs e sz (xs.set j ev)) :: L) n) K) :
    Reg P r N D B all i (⟨none, .store T x y, ty, pos, aft, none⟩ :: ops) tr (st E L n) K :=
  Reg.set (es := [(true, .ptr o off), (true, .agg ds)]) (rd := []) ho gN ⟨_, _, rfl, hx, _, _, rfl, hy, rfl⟩ (by simp) hb (OpC.of_run (by simp) (by simp) fun md n0 cx H ρ w hok _ hHi _ hv => by
    subst hd
    obtain ⟨v1, v2⟩ := Vs.two hv
    simp only [entLV] at v1 v2
    have hob := hHi o (.rs e sz xs) (by simp)
    obtain ⟨hA, hsz, vs, hown, hvs, hone⟩ := hok.ok o _ hob
    simp only [V] at v1 v2
    obtain ⟨_, b, hbk, hp1⟩ := v1
    obtain ⟨us, hu, hus⟩ := v2
    rcases hown.2 with ⟨e1, e2⟩ | ⟨gb, cap, cur, e1, eb, e2, e3, e4, e5, e6⟩
    · omega
    · have hbk' := hbk
      rw [e1] at hbk
      simp only [bk, Option.some.injEq] at hbk
      subst hbk
      have hul : us.length = sz := by have := hus.length; simpa [he] using this
      have hjs : j * sz + sz ≤ xs.length * sz := by rw [← Nat.succ_mul]; exact Nat.mul_le_mul_right _ hj
      have hcs : xs.length * sz ≤ cur.size := by rw [e5]; exact Nat.mul_le_mul_right _ e3
      have hst := run_storeCells_at P gb (j * sz) e us 0 cur w e2 (by omega) (Vs.ones h1 hus)
      have hlen : (xs.set j ev).length = xs.length := List.length_set
      rw [← hoff] at hst
      refine ⟨.skip, undef, w.setRow gb (cur.toList.take (off + 0) ++ us ++ cur.toList.drop (off + 0 + us.length)).toArray, cx, ?_, .inr ⟨rfl, rfl⟩, Tr.set hok hob hbk' ⟨rfl, rfl, rfl⟩ (by simp [World.setRow]) (fun k hk => setRow_other w gb k _ hk) (fun hext => ?_), V.mkval⟩
      · simp [execOp, hp1, hu, Instr.storeAt, Instr.sureAddr, storeVar, Value.cells, hF.2 w, hul, hst]
      · have hvl : vs.length = xs.length * sz := hown.1
        obtain ⟨s1, _⟩ := Vs.splits (j * sz) _ _ hvs
        obtain ⟨_, s2⟩ := Vs.splits (j * sz + sz) _ _ hvs
        refine ⟨set_lens hsz he j, vs.take (j * sz) ++ us ++ vs.drop (j * sz + sz), ⟨?_, .inr ⟨gb, cap, _, ?_, eb, setRow_heap w gb cur _ _ (0, 0) e2, ?_, e4, ?_, ?_⟩⟩, ?_, ?_⟩
        · rw [hlen]; simp only [List.length_append, List.length_take, List.length_drop]; omega
        · rw [hlen]; exact e1
        · rw [hlen]; exact e3
        · rw [← e5]; simp only [List.size_toArray, List.length_append, List.length_take, List.length_drop, Array.length_toList]; omega
        · rw [hlen, ← e6, List.toList_toArray, hul, Nat.add_zero, hoff, List.take_append, List.take_of_length_le (by simp only [List.length_append, List.length_take, Array.length_toList]; omega), List.take_take, Nat.min_eq_left (by omega), List.drop_take]
          congr 1
          congr 1
          simp only [List.length_append, List.length_take, Array.length_toList]
          omega
        · rw [flat_set xs j ev hsz he hj, List.map_append, List.map_append, List.map_take, List.map_drop]
          exact Vs.mono (CxLe.refl _) hext _ _ ((s1.append hus).append s2)
        · intro u hu'
          rcases List.mem_append.1 hu' with hu' | hu'
          · rcases List.mem_append.1 hu' with hu' | hu'
            · exact hone u (List.mem_of_mem_take hu')
            · exact Vs.ones h1 hus u hu'
          · exact hone u (List.mem_of_mem_drop hu')) h
end

/-! arrays -/
theorem fill_congr {f g : Nat → Option (Nat × Nat)} : ∀ (ps : List (Nat × Value)) (C : Array Value), (∀ p ∈ ps, f p.1 = g p.1) → Instr.fill f C ps = Instr.fill g C ps
  | [], C, _ => rfl
  | (j, v) :: ps, C, h => by
    have h1 : f j = g j := h (j, v) (by simp)
    simp only [Instr.fill, h1]
    cases g j with
    | none => rfl
    | some q =>
      obtain ⟨a, b⟩ := q
      simp only
      split
      · rfl
      · exact fill_congr ps _ (fun p hp' => h p (by simp [hp']))
/-- an array whose elements take one cell each -/
def BuildX (P : Program) (t : Nat) (zs : List Value) : Prop := (∀ w, (zeroValue t).run P w = .ok (.agg zs.toArray) w) ∧ ∃ n e, (∀ w, (underlying t).run P w = .ok (.array n e) w) ∧ (∀ w, (sizeOf e).run P w = .ok 1 w)
section
variable {P : Program} {r : Option Nat} {N : Nat} {D : List Nat} {B : Base} {all : Array Oper} {K : List (Nat × Ct) → St → Prop}
variable {i : Nat} {ops : List Oper} {tr : List (Nat × Ct)} {E : List (Nat × Ent)} {L : List (Nat × LO)} {n : Nat} {g : Bool} {gn : List (Nat × Ent)}
variable {d ty : Nat} {pos : String} {aft : Array Edge} {gd : Option (Nat × Bool)}
theorem R.buildX {t : Nat} {zs : List Value} (hF : BuildX P t zs) {parts : Array (Nat × Operand)} {is : List Nat} {xs : List Operand} {es : List Ent} {ls cs : List LV}
    (ho : all[i]? = some ⟨some d, .build t parts, ty, pos, aft, gd⟩ := by rfl) (hg : GuardOk (en E) all gd g gn := by first | exact gN | exact gS rfl rfl) (hp' : parts.toList = is.zip xs := by rfl) (hil : is.length = xs.length := by rfl) (hlt : (is.all fun k => decide (k < zs.length)) = true := by rfl)
    (hx : xs.map (lvOf (en E)) = es.map some := by rfl) (hes : g = true → es.map entLV = ls := by first | exact fun _ => rfl | (intro h; simp [entLV, h])) (h1 : ls.all LV.one = true := by rfl) (hcs : bcells zs is ls = cs := by rfl)
    (h : Reg P r N D B all (i + 1) ops ((i, Ct.p gn xs es (some d) (g, .agg cs) []) :: tr) (st ((d, (g, .agg cs)) :: E) L n) K) :
    Reg P r N D B all i (⟨some d, .build t parts, ty, pos, aft, gd⟩ :: ops) tr (st E L n) K := by
  have hop : (Oper.mk (some d) (.build t parts) ty pos aft gd).op.operands.toList = xs := by
    show (parts.toList.map (·.2)).toArray.toList = xs
    rw [hp']
    simp only [List.toList_toArray]
    exact List.map_snd_zip (by omega)
  refine Reg.pure (es := es) (rd := []) (out := .agg cs) ho hg ?_ (by simp) (fun hgt => ?_) ?_
  · rw [hop]; exact Opnds.of_map hx
  · rw [hes hgt]
    refine OpC.of_pure (by simp) fun md n0 cx H ρ w _ _ hv => ?_
    rw [hop] at hv
    obtain ⟨hz, m, e, hu, hm⟩ := hF
    have hones := Vs.ones h1 hv
    have hpl : (parts.map fun (x : Nat × Operand) => (x.1, ρ x.2)).toList = is.zip (xs.map ρ) := by
      rw [Array.toList_map, hp', List.zip_map_right]
      rfl
    have hin : ∀ p ∈ is.zip (xs.map ρ), p.1 < zs.length ∧ p.2.oneCell' = true := fun p hpm => by
      obtain ⟨hp1, hp2⟩ := List.of_mem_zip hpm
      exact ⟨by simpa using List.all_eq_true.1 hlt _ hp1, hones _ hp2⟩
    have hfill := fill_ones (m := zs.length) (is.zip (xs.map ρ)) zs.toArray (by simp) hin
    rw [fill_congr (g := fun k => some (k * 1, 1)) _ _ (fun p hpm => by
      have := (hin p hpm).1
      simp [this])] at hfill
    refine ⟨.agg ((is.zip (xs.map ρ)).foldl (fun (C : List Value) p => C.set p.1 p.2) zs).toArray, ?_, ?_⟩
    · simp only [execOp, Instr.build, Sem.run_bind, hz w, hu w, Result.andThen_ok, hm w, Value.cells]
      have : (parts.map fun (i, x) => (i, ρ x)).toList = is.zip (xs.map ρ) := hpl
      rw [this]
      simp only [List.toList_toArray] at hfill
      rw [hfill]
      simp
    · rw [← hcs]
      simp only [V]
      refine ⟨_, rfl, bcells_ok is ls _ _ _ ?_ hv⟩
      exact vs_map_val cx w zs
  · rw [hop]; exact h
/-- the place of an element of an array in a box -/
theorem R.indexArr {T len sz : Nat} (hF : IndexAF P T len sz) {x y : Operand} {gx gy : Bool} {o off : Nat} {k : IntKind} {j : Int}
    (ho : all[i]? = some ⟨some d, .indexAddr T x y, ty, pos, aft, gd⟩ := by rfl) (hg : GuardOk (en E) all gd g gn := by first | exact gN | exact gS rfl rfl)
    (hx : lvOf (en E) x = some (gx, .ptr o off) := by rfl) (hy : lvOf (en E) y = some (gy, .v (.int k j)) := by rfl)
    (hgx : g = true → gx = true := by first | exact fun _ => rfl | exact id) (hgy : g = true → gy = true := by first | exact fun _ => rfl | exact id)
    (hj : g = true → 0 ≤ j ∧ j < len)
    (h : Reg P r N D B all (i + 1) ops ((i, Ct.p gn [x, y] [(gx, .ptr o off), (gy, .v (.int k j))] (some d) (g, .ptr o (off + j.toNat * sz)) []) :: tr) (st ((d, (g, .ptr o (off + j.toNat * sz))) :: E) L n) K) :
    Reg P r N D B all i (⟨some d, .indexAddr T x y, ty, pos, aft, gd⟩ :: ops) tr (st E L n) K :=
  Reg.two rfl (fun h => by
    rw [entLV_true h hgx, entLV_true h hgy]
    refine OpC.of_pure2 (x := x) (y := y) rfl (by simp) fun md n0 cx H ρ w hok hrd v1 v2 => ?_
    obtain ⟨h0, hlt⟩ := hj h
    simp only [V] at v1
    obtain ⟨hA, b, hbk, he⟩ := v1
    refine ⟨.pointer (some ⟨b, off + j.toNat * sz, none⟩), by simp only [execOp, he, v2.val]; simp [hF b off k j w h0 hlt], ?_⟩
    simp only [V]
    exact ⟨hA, b, hbk, rfl⟩) ho hg hx hy (by simp) h
end

end Go.Proofs.Ytmiamhegohlglaa
