/- Slices of closed elements that grow or are written; loops told by the slots that turn; calls that look at slices of one's own; equality of structs. -/
import Derived.Test.YtmiamhegohlglaaC17
set_option linter.unusedSimpArgs false
set_option linter.unusedVariables false
namespace Go.Proofs.Ytmiamhegohlglaa

theorem closed_flat (ys : List (List SV)) : (ys.map (List.map LV.sv)).flatten = ys.flatten.map LV.sv := by rw [List.map_flatten]

theorem ObjOk.rs_row {cx : Cx} {w : World} {o T sz : Nat} {ys : List (List SV)} (h : ObjOk cx w o (.rs T sz ys)) : ObjOk cx w o (.row T sz (ys.map (List.map LV.sv))) := by
  obtain ⟨h1, vs, h2, h3, h4⟩ := h
  refine ⟨fun e he => ?_, vs, by simpa using h2, by rw [closed_flat]; exact h3, h4⟩
  obtain ⟨e', he', rfl⟩ := List.mem_map.1 he
  simpa using h1 e' he'
theorem ObjOk.row_rs {cx : Cx} {w : World} {o T sz : Nat} {ys : List (List SV)} (h : ObjOk cx w o (.row T sz (ys.map (List.map LV.sv)))) : ObjOk cx w o (.rs T sz ys) := by
  obtain ⟨h1, vs, h2, h3, h4⟩ := h
  refine ⟨fun e he => ?_, vs, by simpa using h2, by rw [← closed_flat]; exact h3, h4⟩
  have := h1 _ (List.mem_map.2 ⟨e, he, rfl⟩)
  simpa using this

/-- an object told in another way -/
def tellH (o : Nat) (y : LO) (H : Hp) : Hp := fun q => if q = o then some y else H q
theorem HOk.tell {md : Nat → Prop} {n0 : Nat} {cx : Cx} {H : Hp} {w : World} {o : Nat} {x y : LO} (h : HOk md n0 cx H w) (ho : H o = some x) (hy : ObjOk cx w o x → ObjOk cx w o y) (hxy : y.isBx = x.isBx := by rfl) : HOk md n0 cx (tellH o y H) w := by
  have get : ∀ q z, tellH o y H q = some z → ∃ z', H q = some z' ∧ (q = o → z = y ∧ z' = x) ∧ (q ≠ o → z = z') := by
    intro q z hz
    unfold tellH at hz
    split at hz
    · rename_i hq; subst hq; cases hz; exact ⟨x, ho, fun _ => ⟨rfl, rfl⟩, fun hn => absurd rfl hn⟩
    · rename_i hq; exact ⟨z, hz, fun he => absurd he hq, fun _ => rfl⟩
  have hs : ∀ q z z' b, (q = o → z = y ∧ z' = x) ∧ (q ≠ o → z = z') → cx.has q z b → cx.has q z' b := by
    intro q z z' b h1 hb
    by_cases hq : q = o
    · obtain ⟨rfl, rfl⟩ := h1.1 hq; unfold Cx.has at hb ⊢; rw [← hxy]; exact hb
    · rw [← h1.2 hq]; exact hb
  refine ⟨fun q z hz => ?_, fun q z b hz hb => ?_, fun q q' z z' b hne hz hz' hb hb' => ?_, h.lim⟩
  · obtain ⟨z', h1, h2, h3⟩ := get q z hz
    obtain ⟨k1, k2⟩ := h.ok q z' h1
    refine ⟨k1, ?_⟩
    by_cases hq : q = o
    · obtain ⟨rfl, rfl⟩ := h2 hq; subst hq; exact hy k2
    · rw [h3 hq]; exact k2
  · obtain ⟨z', h1, h2⟩ := get q z hz; exact h.own q z' b h1 (hs q z z' b h2 hb)
  · obtain ⟨z1, h1, k1⟩ := get q z hz
    obtain ⟨z2, h2, k2⟩ := get q' z' hz'
    exact h.inj q q' z1 z2 b hne h1 h2 (hs q z z1 b k1 hb) (hs q' z' z2 b k2 hb')

theorem hp_one {o k : Nat} {x y : LO} (h : hp [(o, x)] k = some y) : k = o ∧ y = x := by
  simp only [hp, List.lookup_cons] at h
  split at h
  · rename_i hh; simp at hh; cases h; exact ⟨hh, rfl⟩
  · simp at h
theorem tellH_hp {o : Nat} {x y : LO} : tellH o y (hp [(o, x)]) = hp [(o, y)] := by
  funext k
  unfold tellH
  by_cases h : k = o
  · subst h; simp
  · rw [if_neg h]
    have : (k == o) = false := by simp [h]
    simp [hp, List.lookup_cons, this]
theorem blks_sub {cx : Cx} {o : Nat} {x : LO} (y : LO) {b : Nat} (hxy : y.isBx = x.isBx) (h : blks cx (hp [(o, x)]) b) : blks cx (hp [(o, y)]) b := by
  obtain ⟨k, z, hz, hb⟩ := h
  obtain ⟨rfl, rfl⟩ := hp_one hz
  refine ⟨k, y, by simp, ?_⟩
  unfold Cx.has at hb ⊢; rw [hxy]; exact hb
theorem blks_one {cx : Cx} {o : Nat} {x y : LO} (hxy : y.isBx = x.isBx) : blks cx (hp [(o, x)]) = blks cx (hp [(o, y)]) := by
  funext b
  exact propext ⟨blks_sub y hxy, blks_sub x hxy.symm⟩
theorem Tr.tell {cx cx' : Cx} {w w' : World} {o o' : Nat} {x x' y y' : LO} {new : Nat → Prop} (t : Tr cx w (hp [(o, x)]) cx' w' (hp [(o', y)]) new) (hy : ObjOk cx' w' o' y → ObjOk cx' w' o' y')
    (hxx : x'.isBx = x.isBx := by rfl) (hyy : y'.isBx = y.isBx := by rfl) : Tr cx w (hp [(o, x')]) cx' w' (hp [(o', y')]) new := by
  have h1 : blks cx (hp [(o, x')]) = blks cx (hp [(o, x)]) := blks_one hxx.symm
  refine ⟨t.le, t.A, by rw [h1]; exact t.grow, ?_, fun q hq hn => t.inn q hq ?_⟩
  · rw [h1]
    have h2 := t.heap.tell (o := o') (by simp) hy hyy
    rw [tellH_hp] at h2
    exact h2
  · simp only [hp, List.lookup_cons, List.lookup_nil] at hn ⊢
    cases hqo : (q == o) with
    | true => rw [hqo] at hn; cases hn
    | false => rfl

section
variable {P : Program} {r : Option Nat} {N : Nat} {D : List Nat} {B : Base} {Ψ : Exit → Act → World → Prop} {todo : List Item}
variable {E : List (Nat × Ent)} {L : List (Nat × LO)} {n : Nat}

theorem hp_tell (o : Nat) (y : LO) (L : List (Nat × LO)) : hp ((o, y) :: delL o L) = tellH o y (hp L) := by
  funext k
  unfold tellH
  by_cases h : k = o
  · subst h; simp
  · rw [if_neg h]
    have h2 : (k == o) = false := by simp [h]
    simp only [hp, List.lookup_cons, h2, delL]
    rw [lookup_filter (fun k => !(k == o))]
    simp [h2]
theorem delL_hp (o : Nat) (L : List (Nat × LO)) : hp (delL o L) = fun k => if k = o then none else hp L k := by
  funext k
  simp only [delL, hp]
  rw [lookup_filter (fun k => !(k == o))]
  by_cases h : k = o <;> simp [h]

theorem delL_at (o : Nat) (L : List (Nat × LO)) (k : Nat) : hp (delL o L) k = if k = o then none else hp L k := congrFun (delL_hp o L) k
theorem LGo.tell (o : Nat) {x : LO} (y : LO) (hb : hp L o = some x) (hy : ∀ cx w, ObjOk cx w o x → ObjOk cx w o y) (h : LGo P r N D B Ψ todo (st E ((o, y) :: delL o L) n)) (hxy : y.isBx = x.isBx := by rfl) : LGo P r N D B Ψ todo (st E L n) := by
  refine LGo.conv (S' := st E ((o, y) :: delL o L) n) (fun cx a w hr => ⟨cx, hr.grow, hr.le, hr.hA, ?_, hr.size, hr.env, hr.df, hr.dA⟩) h
  show HOk _ _ cx (hp ((o, y) :: delL o L)) w
  rw [hp_tell]
  exact hr.heap.tell hb (hy cx w) hxy
theorem LGo.toRs (o : Nat) {T sz : Nat} {xs : List (List LV)} (ys : List (List SV)) (hb : hp L o = some (.row T sz xs) := by rfl) (hy : xs = ys.map (List.map LV.sv) := by rfl)
    (h : LGo P r N D B Ψ todo (st E ((o, .rs T sz ys) :: delL o L) n)) : LGo P r N D B Ψ todo (st E L n) :=
  LGo.tell o _ hb (fun cx w hx => ObjOk.row_rs (by rw [← hy]; exact hx)) h

/-- the nil slice, as a slice of one's own -/
theorem LGo.nilRs (t T sz : Nat) (ht : en E t = some (true, .v (.slice none 0 0)) := by rfl)
    (h : LGo P r N D B Ψ todo (st ((t, (true, .ref n)) :: E) ((n, .rs T sz []) :: L) (n + 1))) : LGo P r N D B Ψ todo (st E L n) := by
  refine LGo.nilRow t T sz ht (LGo.tell n (.rs T sz []) (x := .row T sz []) (by simp) (fun cx w hx => ObjOk.row_rs (by simpa using hx)) ?_)
  have e : st ((t, (true, LV.ref n)) :: E) ((n, LO.rs T sz []) :: delL n ((n, .row T sz []) :: L)) (n + 1) = st ((t, (true, .ref n)) :: E) ((n, .rs T sz []) :: L) (n + 1) := by
    simp only [st]
    congr 1
    rw [hp_tell]
    funext k
    unfold tellH
    by_cases hk : k = n
    · subst hk; simp
    · have h2 : (k == n) = false := by simp [hk]
      simp [hp, List.lookup_cons, h2, hk]
  rw [e]; exact h

/-- a slice that is written no more -/
theorem LGo.frz (o : Nat) {T sz : Nat} {ys : List (List SV)} (hb : hp L o = some (.rs T sz ys) := by rfl)
    (h : LGo P r N D B Ψ todo (st (frzE o (.sl sz ys) E) (delL o L) n)) : LGo P r N D B Ψ todo (st E L n) := by
  refine LGo.tell o (.row T sz (ys.map (List.map LV.sv))) hb (fun cx w hx => hx.rs_row) (LGo.freeze o (T := T) (sz := sz) (xs := ys.map (List.map LV.sv)) (ys := ys) (by simp) rfl ?_)
  have e : st (frzE o (.sl sz ys) E) (delL o ((o, LO.row T sz (ys.map (List.map LV.sv))) :: delL o L)) n = st (frzE o (.sl sz ys) E) (delL o L) n := by
    simp only [st]
    congr 1
    rw [delL_hp, delL_hp, hp_tell]
    funext k
    unfold tellH
    by_cases hk : k = o <;> simp [hk]
  rw [e]; exact h

/-- a loop: x of σ tells the slots that turn; Er: the slots that stay -/
theorem LGo.loopG {σ : Type} (Q : σ → Prop) (EE : σ → List (Nat × Ent)) (LL : σ → List (Nat × LO)) (μ : σ → Nat) (x0 : σ) (Er : List (Nat × Ent)) (h0 : Q x0)
    (hE : KeepE (en E) (EE x0)) (hEr : KeepE (en E) Er) (hL : KeepL (hp L) (LL x0))
    (round : ∀ x, Q x → (∀ y, Q y → μ y < μ x → LGo P r N D B Ψ todo (st (EE y ++ Er) (LL y) n)) → LGo P r N D B Ψ todo (st (EE x ++ Er) (LL x) n)) :
    LGo P r N D B Ψ todo (st E L n) := by
  have happ : ∀ (l l' : List (Nat × Ent)), KeepE (en E) l → KeepE (en E) l' → KeepE (en E) (l ++ l') := by
    intro l
    induction l with
    | nil => intro l' _ h; exact h
    | cons p l ih => intro l' h h'; exact ⟨h.1, ih l' h.2 h'⟩
  exact LGo.keep (EE x0 ++ Er) (LL x0) (happ _ _ hE hEr) hL (LGo.loopK Q (fun x => EE x ++ Er) LL (fun _ => n) μ x0 h0 round)

end

theorem SrcOk.rs {P : Program} {tx e' sz T o : Nat} {ys : List (List SV)} (hk : P.underlying tx = some (.slice e')) (hs : ∀ e ∈ ys, e.length = sz) : SrcOk P tx sz (.ref o) [(o, .rs T sz ys)] (ys.map (List.map LV.sv)) := by
  have h := SrcOk.row (P := P) (T := T) (o := o) (ys := ys.map (List.map LV.sv)) hk (sz := sz) (fun e he => by
    obtain ⟨e1, he1, rfl⟩ := List.mem_map.1 he; simpa using hs e1 he1)
  refine ⟨h.1, fun md n0 cx H w v hok hrd hv => ?_⟩
  have ho := hrd o (.rs T sz ys) (by simp)
  refine h.2 md n0 cx (tellH o (.row T sz (ys.map (List.map LV.sv))) H) w v (hok.tell ho ObjOk.rs_row) (fun k x hk' => ?_) hv
  obtain ⟨rfl, rfl⟩ := hp_one hk'
  simp [tellH]
abbrev LV.t (l : List UInt8) : LV := .sv (.val (.string ⟨l.toArray⟩))
theorem SrcOk.strT {P : Program} {tx : Nat} {l : List UInt8} (hk : P.underlying tx = some .string) : SrcOk P tx 1 (.t l) [] ((bytesC l).map (List.map LV.sv)) := by
  have := SrcOk.str (P := P) (s := ⟨l.toArray⟩) hk
  rw [bytesL_eq]; simpa using this

section
variable {P : Program} {r : Option Nat} {N : Nat} {D : List Nat} {B : Base} {all : Array Oper} {K : List (Nat × Ct) → St → Prop}
variable {i : Nat} {ops : List Oper} {tr : List (Nat × Ct)} {E : List (Nat × Ent)} {L : List (Nat × LO)} {n : Nat} {g : Bool} {gn : List (Nat × Ent)}
variable {d ty : Nat} {pos : String} {aft : Array Edge} {gd : Option (Nat × Bool)}

/-- append, closed elements -/
theorem R.appendS {t tx e sz : Nat} (hF : AppF P t e sz) {x y : Operand} {o : Nat} {xs ys : List (List SV)} {lv : LV} {rd : List (Nat × LO)}
    (ho : all[i]? = some ⟨some d, .call { callee := .builtin .append, args := #[x, y], argTypes := #[t, tx] }, ty, pos, aft, none⟩ := by rfl)
    (hx : lvOf (en E) x = some (true, .ref o) := by rfl) (hy : lvOf (en E) y = some (true, lv) := by rfl) (hb : hp L o = some (.rs e sz xs) := by rfl)
    (hs : SrcOk P tx sz lv rd (ys.map (List.map LV.sv))) (hrd : ∀ k x, hp rd k = some x → hp L k = some x := by first | exact noHo | exact oneL rfl) (h0 : 0 < sz := by decide) (hlen : (xs.length + ys.length) * sz ≤ 4398046511104)
    (h : Reg P r N D B all (i + 1) ops ((i, ⟨needOf [x, y] [(true, .ref o), (true, lv)], some d, (true, .ref n), rd, [(o, .rs e sz xs)], [(n, .rs e sz (xs ++ ys))], [n]⟩) :: tr) (st ((d, (true, .ref n)) :: E) ((n, .rs e sz (xs ++ ys)) :: delL o L) (n + 1)) K) :
    Reg P r N D B all i (⟨some d, .call { callee := .builtin .append, args := #[x, y], argTypes := #[t, tx] }, ty, pos, aft, none⟩ :: ops) tr (st E L n) K := by
  refine Reg.gen (m := 1) (es := [(true, .ref o), (true, lv)]) (rd := rd) (Hi := [(o, .rs e sz xs)]) (Ho := [(n, .rs e sz (xs ++ ys))]) (out := .ref n) ho gN ⟨_, _, rfl, hx, _, _, rfl, hy, rfl⟩ hrd (oneL hb) ?_ ?_
  · refine OpC.of_run (by simp) (by simp) fun md n0 cx H ρ w hok hrd' hHi hnew hv => ?_
    have hop : (Oper.mk (some d) (.call { callee := .builtin .append, args := #[x, y], argTypes := #[t, tx] }) ty pos aft none).op.operands.toList = [x, y] := rfl
    rw [hop] at hv
    obtain ⟨v1, v2⟩ := Vs.two hv
    simp only [entLV] at v1 v2
    obtain ⟨news, hsrc, hnv⟩ := hs.2 md n0 cx H w _ hok hrd' v2
    simp only [V] at v1
    have hob := hHi o (.rs e sz xs) (by simp)
    obtain ⟨v, w', cx', h1, h2, h3⟩ := run_append (o' := n) (xs := xs.map (List.map LV.sv)) (ys := ys.map (List.map LV.sv)) hF h0 (hok.tell hob ObjOk.rs_row) (o := o) (by simp [tellH]) (hnew n (by simp)) hsrc hs.1 hnv (by simpa using hlen) ty
    refine ⟨_, v, w', cx', ?_, .inl rfl, h2.tell (fun hx => ObjOk.row_rs (by simpa using hx)), h3⟩
    have hx' : ρ x = cx.loc o := v1.2.1
    simp [execOp, resolve, invoke, builtin, hx', h1]
  · have e1 : st (putL (some d) (true, .ref n) E) (updL L [(o, .rs e sz xs)] [(n, .rs e sz (xs ++ ys))]) (n + 1) = st ((d, (true, .ref n)) :: E) ((n, .rs e sz (xs ++ ys)) :: delL o L) (n + 1) := by
      simp only [st, updL_app, putL]
    rw [e1]; exact h

/-- the length of a slice of one's own -/
theorem R.lenRs {T : Nat} (hF : SliceT P T) {x : Operand} {gx : Bool} {o e sz : Nat} {xs : List (List SV)}
    (ho : all[i]? = some ⟨some d, .call { callee := .builtin .len, args := #[x], argTypes := #[T] }, ty, pos, aft, gd⟩ := by rfl) (hg : GuardOk (en E) all gd g gn := by first | exact gN | exact gS rfl rfl)
    (hx : lvOf (en E) x = some (gx, .ref o) := by rfl) (hgx : g = true → gx = true := by first | exact fun _ => rfl | exact id) (hb : hp L o = some (.rs e sz xs) := by rfl)
    (h : Reg P r N D B all (i + 1) ops ((i, Ct.p gn [x] [(gx, .ref o)] (some d) (g, .i xs.length) [(o, .rs e sz xs)]) :: tr) (st ((d, (g, .i xs.length)) :: E) L n) K) :
    Reg P r N D B all i (⟨some d, .call { callee := .builtin .len, args := #[x], argTypes := #[T] }, ty, pos, aft, gd⟩ :: ops) tr (st E L n) K :=
  Reg.one rfl (fun h => by
    rw [entLV_true h hgx]
    refine OpC.of_pure1 (x := x) rfl (by simp) fun md n0 cx H ρ w hok hrd hvv => ?_
    have hv := hvv
    obtain ⟨el, hT⟩ := hF
    simp only [V] at hv
    obtain ⟨_, hv1, _⟩ := hv
    obtain ⟨_, _, vs, hown, _⟩ := hok.ok o _ (hrd o (.rs e sz xs) (by simp))
    refine ⟨.int .i64 xs.length, ?_, V.mkval⟩
    rcases hown.2 with ⟨e1, e2⟩ | ⟨gb, cap, cur, e1, _⟩
    · rw [e1] at hv1
      simp [execOp, resolve, invoke, builtin, Builtin.len_, hv1, hT w, goInt, e2]
    · rw [e1] at hv1
      simp [execOp, resolve, invoke, builtin, Builtin.len_, hv1, hT w, goInt]) ho hg hx (oneL hb) h

/-- the place of an element of a slice of one's own -/
theorem R.indexRs {T sz : Nat} (hF : IndexF P T sz) {x y : Operand} {gx gy : Bool} {o e : Nat} {xs : List (List SV)} {k : IntKind} {j : Int}
    (ho : all[i]? = some ⟨some d, .indexAddr T x y, ty, pos, aft, gd⟩ := by rfl) (hg : GuardOk (en E) all gd g gn := by first | exact gN | exact gS rfl rfl)
    (hx : lvOf (en E) x = some (gx, .ref o) := by rfl) (hy : lvOf (en E) y = some (gy, .v (.int k j)) := by rfl)
    (hgx : g = true → gx = true := by first | exact fun _ => rfl | exact id) (hgy : g = true → gy = true := by first | exact fun _ => rfl | exact id) (hb : hp L o = some (.rs e sz xs) := by rfl)
    (hj : g = true → 0 ≤ j ∧ j < xs.length)
    (h : Reg P r N D B all (i + 1) ops ((i, Ct.p gn [x, y] [(gx, .ref o), (gy, .v (.int k j))] (some d) (g, .ptr o (j.toNat * sz)) [(o, .rs e sz xs)]) :: tr) (st ((d, (g, .ptr o (j.toNat * sz))) :: E) L n) K) :
    Reg P r N D B all i (⟨some d, .indexAddr T x y, ty, pos, aft, gd⟩ :: ops) tr (st E L n) K :=
  Reg.two rfl (fun h => by
    rw [entLV_true h hgx, entLV_true h hgy]
    refine OpC.of_pure2 (x := x) (y := y) rfl (by simp) fun md n0 cx H ρ w hok hrd v1 v2 => ?_
    obtain ⟨h0, hlt⟩ := hj h
    simp only [V] at v1
    obtain ⟨hA, hv1, _⟩ := v1
    obtain ⟨_, _, vs, hown, _⟩ := hok.ok o _ (hrd o (.rs e sz xs) (by simp))
    rcases hown.2 with ⟨e1, e2⟩ | ⟨gb, cap, cur, e1, _⟩
    · omega
    · rw [e1] at hv1
      refine ⟨.pointer (some ⟨gb, 0 + j.toNat * sz, none⟩), by simp only [execOp, hv1, v2.val]; simp [hF gb 0 xs.length cap k j w h0 hlt], ?_⟩
      simp only [V]
      exact ⟨hA, gb, by rw [e1]; rfl, by rw [Nat.zero_add]⟩) ho hg hx hy (oneL hb) h

theorem rs_cell {cx : Cx} {w : World} {o e sz : Nat} {xs : List (List SV)} (h : ObjOk cx w o (.rs e sz xs)) {j f : Nat} {x : List SV} {c : SV} (hj : xs[j]? = some x) (hf : x[f]? = some c) :
    ∃ b v, bk (cx.loc o) = some b ∧ w.cell? ⟨b, j * sz + f, none⟩ = some v ∧ VS cx.pr w c v := by
  obtain ⟨hsz, vs, hown, hvs, _⟩ := h
  have hjl := (List.getElem?_eq_some_iff.1 hj).1
  have hxl : x.length = sz := hsz x (List.mem_of_getElem? hj)
  have hfl : f < sz := by rw [← hxl]; exact (List.getElem?_eq_some_iff.1 hf).1
  have hfla : ∀ (xs : List (List SV)) (j : Nat), (∀ e ∈ xs, e.length = sz) → xs[j]? = some x → xs.flatten[j * sz + f]? = some c := by
    intro xs
    induction xs with
    | nil => intro j _ h; simp at h
    | cons y xs ih =>
      intro j hs h
      have hyl := hs y (by simp)
      cases j with
      | zero =>
        simp at h; subst h
        rw [Nat.zero_mul, Nat.zero_add, List.flatten_cons, List.getElem?_append_left (by omega)]; exact hf
      | succ j =>
        have := ih j (fun e he => hs e (by simp [he])) (by simpa using h)
        rw [List.flatten_cons, List.getElem?_append_right (by rw [hyl, Nat.succ_mul]; omega), hyl, show (j + 1) * sz + f - sz = j * sz + f from by rw [Nat.succ_mul]; omega]
        exact this
  have hflat := hfla xs j hsz hj
  have hc : (xs.flatten.map LV.sv)[j * sz + f]? = some (.sv c) := by rw [List.getElem?_map, hflat]; rfl
  obtain ⟨v, hv, hV⟩ := hvs.get hc
  rcases hown.2 with ⟨e1, e2⟩ | ⟨gb, cap, cur, e1, _, e2, e3, e4, e5, e6⟩
  · omega
  · refine ⟨gb, v, by rw [e1]; rfl, ?_, by simpa [V] using hV⟩
    rw [← e6, List.getElem?_take] at hv
    split at hv
    · simp [World.cell?, e2]; simpa using hv
    · cases hv

/-- a cell of an element of a slice of one's own -/
theorem R.loadRs1 {T : Nat} (hF : OneF P T) {x : Operand} {gx : Bool} {o off e sz : Nat} {xs : List (List SV)} {ev : List SV} {c : SV} (j f : Nat)
    (ho : all[i]? = some ⟨some d, .load T x, ty, pos, aft, gd⟩ := by rfl) (hg : GuardOk (en E) all gd g gn := by first | exact gN | exact gS rfl rfl)
    (hx : lvOf (en E) x = some (gx, .ptr o off) := by rfl) (hgx : g = true → gx = true := by first | exact fun _ => rfl | exact id) (hb : hp L o = some (.rs e sz xs) := by rfl)
    (hj : g = true → xs[j]? = some ev ∧ ev[f]? = some c) (hoff : off = j * sz + f := by omega)
    (h : Reg P r N D B all (i + 1) ops ((i, Ct.p gn [x] [(gx, .ptr o off)] (some d) (g, .sv c) [(o, .rs e sz xs)]) :: tr) (st ((d, (g, .sv c)) :: E) L n) K) :
    Reg P r N D B all i (⟨some d, .load T x, ty, pos, aft, gd⟩ :: ops) tr (st E L n) K :=
  Reg.one rfl (fun h => by
    rw [entLV_true h hgx]
    refine OpC.of_pure1 (x := x) rfl (by simp) fun md n0 cx H ρ w hok hrd hvv => ?_
    obtain ⟨h1, h2⟩ := hj h
    simp only [V] at hvv
    obtain ⟨hA, b, hbk, he⟩ := hvv
    obtain ⟨b', v, k1, k2, k3⟩ := rs_cell (hok.ok o _ (hrd o (.rs e sz xs) (by simp))).2 h1 h2
    rw [k1] at hbk; cases hbk
    refine ⟨v, ?_, by simpa only [V] using k3⟩
    rw [← hoff] at k2
    simp [execOp, he, Instr.loadAt, Instr.sureAddr, loadVar, hF.1 w, k2]) ho hg hx (oneL hb) h

/-- a whole element of a slice of one's own -/
theorem R.loadRsN {T sz : Nat} (hF : AggF P T sz) {x : Operand} {gx : Bool} {o off e : Nat} {xs : List (List SV)} {ev : List SV} (j : Nat)
    (ho : all[i]? = some ⟨some d, .load T x, ty, pos, aft, gd⟩ := by rfl) (hg : GuardOk (en E) all gd g gn := by first | exact gN | exact gS rfl rfl)
    (hx : lvOf (en E) x = some (gx, .ptr o off) := by rfl) (hgx : g = true → gx = true := by first | exact fun _ => rfl | exact id) (hb : hp L o = some (.rs e sz xs) := by rfl)
    (hj : g = true → xs[j]? = some ev) (hoff : off = j * sz := by omega)
    (h : Reg P r N D B all (i + 1) ops ((i, Ct.p gn [x] [(gx, .ptr o off)] (some d) (g, .agg (ev.map LV.sv)) [(o, .rs e sz xs)]) :: tr) (st ((d, (g, .agg (ev.map LV.sv))) :: E) L n) K) :
    Reg P r N D B all i (⟨some d, .load T x, ty, pos, aft, gd⟩ :: ops) tr (st E L n) K :=
  Reg.one rfl (fun h => by
    rw [entLV_true h hgx]
    refine OpC.of_pure1 (x := x) rfl (by simp) fun md n0 cx H ρ w hok hrd hvv => ?_
    have h1 := hj h
    simp only [V] at hvv
    obtain ⟨hA, b, hbk, he⟩ := hvv
    have hob := (hok.ok o _ (hrd o (.rs e sz xs) (by simp))).2
    have hel : ev.length = sz := hob.1 ev (List.mem_of_getElem? h1)
    have hcells : ∀ f, f < sz → ∃ v, w.cell? ⟨b, off + f, none⟩ = some v ∧ ∀ c, ev[f]? = some c → VS cx.pr w c v := by
      intro f hf
      obtain ⟨b', v, k1, k2, k3⟩ := rs_cell (f := f) (c := ev[f]'(by omega)) hob h1 (List.getElem?_eq_getElem (by omega))
      rw [k1] at hbk; cases hbk
      exact ⟨v, by rw [hoff]; exact k2, fun c hc => by rw [List.getElem?_eq_getElem (by omega)] at hc; cases hc; exact k3⟩
    have hvs : ∃ vs : List Value, vs.length = sz ∧ ∀ (f : Nat) (v : Value), vs[f]? = some v → w.cell? ⟨b, off + f, none⟩ = some v ∧ ∀ c, ev[f]? = some c → VS cx.pr w c v := by
      have : ∀ m, m ≤ sz → ∃ vs : List Value, vs.length = m ∧ ∀ (f : Nat) (v : Value), vs[f]? = some v → w.cell? ⟨b, off + f, none⟩ = some v ∧ ∀ c, ev[f]? = some c → VS cx.pr w c v := by
        intro m
        induction m with
        | zero => intro _; exact ⟨[], rfl, by simp⟩
        | succ m ih =>
          intro hm
          obtain ⟨vs, g1, g2⟩ := ih (by omega)
          obtain ⟨v, k1, k2⟩ := hcells m (by omega)
          refine ⟨vs ++ [v], by simp [g1], fun f u hu => ?_⟩
          rcases Nat.lt_or_ge f m with hlt | hge
          · rw [List.getElem?_append_left (by omega)] at hu; exact g2 f u hu
          · have hfl := (List.getElem?_eq_some_iff.1 hu).1
            simp [g1] at hfl
            have hfm : f = m := by omega
            subst hfm
            rw [List.getElem?_append_right (by omega), g1, Nat.sub_self] at hu
            simp at hu; subst hu
            exact ⟨k1, k2⟩
      exact this sz (Nat.le_refl _)
    obtain ⟨vs, g1, g2⟩ := hvs
    refine ⟨.agg vs.toArray, ?_, by simp only [V]; exact ⟨vs, rfl, Vs.of_vs (by rw [g1, hel]) (fun f c v hc hv => (g2 f v hv).2 c hc)⟩⟩
    have hl : (loadCells ⟨b, off, none⟩ vs.length).run P w = .ok vs.toArray w := run_loadCells_list (P := P) w ⟨b, off, none⟩ vs (fun f v hv => by
      have hadd : (⟨b, off, none⟩ : Addr).add f = ⟨b, off + f, none⟩ := by unfold Addr.add; split <;> simp_all
      rw [hadd]; exact (g2 f v hv).1)
    rw [g1] at hl
    simp [execOp, he, Instr.loadAt, Instr.sureAddr, loadVar, hF.1 w, hF.2 w, hl]) ho hg hx (oneL hb) h

end

end Go.Proofs.Ytmiamhegohlglaa
