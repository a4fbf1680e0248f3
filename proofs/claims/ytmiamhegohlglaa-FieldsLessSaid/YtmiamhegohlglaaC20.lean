/- Strings as lists of bytes; bytes of a string; entries told anew; slices out of closed elements. -/
import Derived.Test.YtmiamhegohlglaaC19
import Derived.Laws.StructEq
set_option linter.unusedSimpArgs false
set_option linter.unusedVariables false
namespace Go.Proofs.Ytmiamhegohlglaa

theorem byt_size (l : List UInt8) : (⟨l.toArray⟩ : ByteArray).size = l.length := by simp [ByteArray.size]
theorem byt_extract (l : List UInt8) (a b : Nat) : (⟨l.toArray⟩ : ByteArray).extract a b = ⟨((l.take b).drop a).toArray⟩ := by
  apply ByteArray.ext
  simp [ByteArray.data_extract, List.drop_take]
theorem byt_append (l m : List UInt8) : (⟨l.toArray⟩ : ByteArray) ++ ⟨m.toArray⟩ = ⟨(l ++ m).toArray⟩ := by
  apply ByteArray.ext
  simp [ByteArray.data_append]
theorem byt_eq (l m : List UInt8) : decide ((⟨l.toArray⟩ : ByteArray) = ⟨m.toArray⟩) = decide (l = m) := by
  congr 1
  simp [ByteArray.mk.injEq]
theorem byt_get (l : List UInt8) (j : Nat) (c : UInt8) (h : l[j]? = some c) : (⟨l.toArray⟩ : ByteArray)[j]? = some c := by
  have hlt := (List.getElem?_eq_some_iff.1 h).1
  have hsz : j < (⟨l.toArray⟩ : ByteArray).size := by rw [byt_size]; exact hlt
  have he := (List.getElem?_eq_some_iff.1 h).2
  simp only [getElem?, decidableGetElem?, hsz, dif_pos]
  exact congrArg some he

/-! equality of structs -/

theorem byt_beq (a b : List UInt8) : ((⟨a.toArray⟩ : ByteArray).toList == (⟨b.toArray⟩ : ByteArray).toList) = decide (a = b) := by
  rw [ByteArray.toList_eq, ByteArray.toList_eq]
  by_cases h : a = b
  · subst h; simp
  · simp [h]
theorem run_eqS {P : Program} {t : Nat} {fs : Array Field} (hu : P.underlying t = some (.struct fs)) (hp : P.stoodInHeld t = false) (hm : P.eqGuardType P.depth t = false) {xs ys : Array Value} {b : Bool}
    (h : ∀ w, (Op.eqFields 9999 xs ys fs.toList).run P w = .ok b w) (x y : Operand) : ∀ w, (do eqGuard .eql t x y (.agg xs) (.agg ys); binOp .eql t (.agg xs) (.agg ys) : Sem Value).run P w = .ok (.bool b) w := by
  intro w
  have hf : P.fieldsOf t = fs := by unfold Program.fieldsOf; rw [hu]
  have h1 : (Op.equalIn 10000 t (.agg xs) (.agg ys)).run P w = .ok b w := by
    have := run_equalIn_agg (P := P) w 9999 t xs ys (by rw [hf]; exact hu) hp
    rw [hf, h w] at this
    exact this
  rw [Sem.run_bind, run_eqGuard_agg _ _ _ _ _ _ _ hm]
  simp only [Result.andThen_ok]
  rw [run_eql_struct, h1]
  rfl
theorem run_neS {P : Program} {t : Nat} {fs : Array Field} (hu : P.underlying t = some (.struct fs)) (hp : P.stoodInHeld t = false) (hm : P.eqGuardType P.depth t = false) {xs ys : Array Value} {b : Bool}
    (h : ∀ w, (Op.eqFields 9999 xs ys fs.toList).run P w = .ok b w) (x y : Operand) : ∀ w, (do eqGuard .neq t x y (.agg xs) (.agg ys); binOp .neq t (.agg xs) (.agg ys) : Sem Value).run P w = .ok (.bool (!b)) w := by
  intro w
  have hf : P.fieldsOf t = fs := by unfold Program.fieldsOf; rw [hu]
  have h1 : (Op.equalIn 10000 t (.agg xs) (.agg ys)).run P w = .ok b w := by
    have := run_equalIn_agg (P := P) w 9999 t xs ys (by rw [hf]; exact hu) hp
    rw [hf, h w] at this
    exact this
  rw [Sem.run_bind, run_eqGuard_agg _ _ _ _ _ _ _ hm]
  simp only [Result.andThen_ok]
  rw [run_neq_struct, h1]
  rfl

section
variable {P : Program} {r : Option Nat} {N : Nat} {D : List Nat} {B : Base} {Ψ : Exit → Act → World → Prop} {todo : List Item}
variable {E : List (Nat × Ent)} {L : List (Nat × LO)} {n : Nat}

/-- an entry told anew -/
theorem LGo.re (t : Nat) {g : Bool} {lv : LV} (lv' : LV) (ht : en E t = some (g, lv)) (hv : ∀ cx w x, V cx w lv x → V cx w lv' x) (h : LGo P r N D B Ψ todo (st ((t, (g, lv')) :: E) L n)) : LGo P r N D B Ψ todo (st E L n) := by
  refine LGo.conv (S' := st ((t, (g, lv')) :: E) L n) (fun cx a w hr => ⟨cx, hr.grow, hr.le, hr.hA, hr.heap, hr.size, fun s e he => ?_, hr.df, hr.dA⟩) h
  simp only [st, en, List.lookup_cons] at he
  split at he
  · rename_i hh
    simp at hh
    cases he
    subst hh
    have := hr.env s _ ht
    exact ⟨fun hg => hv _ _ _ (this.1 hg), this.2⟩
  · exact hr.env s e he
/-- the nil slice, as a slice without elements -/
theorem LGo.nilSl (t sz : Nat) {g : Bool} (ht : en E t = some (g, .v (.slice none 0 0)) := by rfl) (h : LGo P r N D B Ψ todo (st ((t, (g, .sv (.sl sz []))) :: E) L n)) : LGo P r N D B Ψ todo (st E L n) :=
  LGo.re t _ ht (fun cx w x hx => by simp only [V, VS] at hx ⊢; exact .inl ⟨.inl hx, trivial⟩) h

end

/-- the closed value that a cell holds -/
def unSv : LV → SV
  | .sv s => s
  | _ => .val undef

section
variable {P : Program} {r : Option Nat} {N : Nat} {D : List Nat} {B : Base} {all : Array Oper} {K : List (Nat × Ct) → St → Prop}
variable {i : Nat} {ops : List Oper} {tr : List (Nat × Ct)} {E : List (Nat × Ent)} {L : List (Nat × LO)} {n : Nat} {g : Bool} {gn : List (Nat × Ent)}
variable {d ty : Nat} {pos : String} {aft : Array Edge} {gd : Option (Nat × Bool)}

theorem R.lenT {T : Nat} (hT : ∀ w, (underlying T).run P w = .ok .string w) {x : Operand} {gx : Bool} {l : List UInt8}
    (ho : all[i]? = some ⟨some d, .call { callee := .builtin .len, args := #[x], argTypes := #[T] }, ty, pos, aft, gd⟩ := by rfl) (hg : GuardOk (en E) all gd g gn := by first | exact gN | exact gS rfl rfl)
    (hx : lvOf (en E) x = some (gx, .t l) := by rfl) (hgx : g = true → gx = true := by first | exact fun _ => rfl | exact id)
    (h : Reg P r N D B all (i + 1) ops ((i, Ct.p gn [x] [(gx, .t l)] (some d) (g, .i l.length) []) :: tr) (st ((d, (g, .i l.length)) :: E) L n) K) :
    Reg P r N D B all i (⟨some d, .call { callee := .builtin .len, args := #[x], argTypes := #[T] }, ty, pos, aft, gd⟩ :: ops) tr (st E L n) K :=
  R.lenV (a := .string ⟨l.toArray⟩) (m := l.length) (fun w => by rw [run_lenS hT w, byt_size]) ho hg hx hgx h

theorem R.indexT {T : Nat} (hT : ∀ w, (underlying T).run P w = .ok .string w) {x y : Operand} {gx gy : Bool} {l : List UInt8} {k : IntKind} {j : Int} {c : UInt8}
    (ho : all[i]? = some ⟨some d, .index T x y, ty, pos, aft, gd⟩ := by rfl) (hg : GuardOk (en E) all gd g gn := by first | exact gN | exact gS rfl rfl)
    (hx : lvOf (en E) x = some (gx, .t l) := by rfl) (hy : lvOf (en E) y = some (gy, .v (.int k j)) := by rfl)
    (hgx : g = true → gx = true := by first | exact fun _ => rfl | exact id) (hgy : g = true → gy = true := by first | exact fun _ => rfl | exact id)
    (hj : g = true → 0 ≤ j ∧ l[j.toNat]? = some c)
    (h : Reg P r N D B all (i + 1) ops ((i, Ct.p gn [x, y] [(gx, .t l), (gy, .v (.int k j))] (some d) (g, .y c.toNat) []) :: tr) (st ((d, (g, .y c.toNat)) :: E) L n) K) :
    Reg P r N D B all i (⟨some d, .index T x y, ty, pos, aft, gd⟩ :: ops) tr (st E L n) K :=
  Reg.two rfl (fun h => by
    rw [entLV_true h hgx, entLV_true h hgy]
    refine OpC.of_pure2 (x := x) (y := y) rfl (by simp) fun md n0 cx H ρ w _ _ v1 v2 => ?_
    obtain ⟨h0, h1⟩ := hj h
    refine ⟨.int .u8 c.toNat, ?_, V.mkval⟩
    have hs := byt_get l _ c h1
    simp [execOp, Instr.index, asIntOf, v1.val, v2.val, hT w, h0, hs]) ho hg hx hy (by simp) h

theorem run_sliceT {T : Nat} (hT : ∀ w, (underlying T).run P w = .ok .string w) {l : List UInt8} (lo hi : Option Value) (a b : Nat)
    (hlo : (lo = none ∧ a = 0) ∨ ∃ k, lo = some (.int k a)) (hhi : (hi = none ∧ b = l.length) ∨ ∃ k, hi = some (.int k b)) (hab : a ≤ b) (hb : b ≤ l.length) (w : World) :
    (Instr.sliceAt T (.string ⟨l.toArray⟩) lo hi none).run P w = .ok (.string ⟨((l.take b).drop a).toArray⟩) w := by
  have hsz := byt_size l
  have hex := byt_extract l
  rcases hlo with ⟨rfl, rfl⟩ | ⟨k, rfl⟩ <;> rcases hhi with ⟨rfl, rfl⟩ | ⟨k', rfl⟩ <;>
    simp [Instr.sliceAt, Instr.slice, hT w, Instr.sliceBounds, Instr.sliceBound, asIntOf, hab, hb, hsz, hex]

theorem R.sliceTLo {T : Nat} (hT : ∀ w, (underlying T).run P w = .ok .string w) {x y : Operand} {gx gy : Bool} {l : List UInt8} {k : IntKind} {a : Int}
    (ho : all[i]? = some ⟨some d, .slice T x (some y) none none, ty, pos, aft, gd⟩ := by rfl) (hg : GuardOk (en E) all gd g gn := by first | exact gN | exact gS rfl rfl)
    (hx : lvOf (en E) x = some (gx, .t l) := by rfl) (hy : lvOf (en E) y = some (gy, .v (.int k a)) := by rfl)
    (hgx : g = true → gx = true := by first | exact fun _ => rfl | exact id) (hgy : g = true → gy = true := by first | exact fun _ => rfl | exact id)
    (ha : g = true → 0 ≤ a ∧ a ≤ l.length)
    (h : Reg P r N D B all (i + 1) ops ((i, Ct.p gn [x, y] [(gx, .t l), (gy, .v (.int k a))] (some d) (g, .t (l.drop a.toNat)) []) :: tr) (st ((d, (g, .t (l.drop a.toNat))) :: E) L n) K) :
    Reg P r N D B all i (⟨some d, .slice T x (some y) none none, ty, pos, aft, gd⟩ :: ops) tr (st E L n) K :=
  Reg.two rfl (fun h => by
    rw [entLV_true h hgx, entLV_true h hgy]
    refine OpC.of_pure2 (x := x) (y := y) rfl (by simp) fun md n0 cx H ρ w _ _ v1 v2 => ?_
    obtain ⟨h0, h1⟩ := ha h
    obtain ⟨m, rfl⟩ := Int.eq_ofNat_of_zero_le h0
    have hr := run_sliceT (P := P) hT (some (.int k m)) none m l.length (.inr ⟨k, rfl⟩) (.inl ⟨rfl, rfl⟩) (by omega) (Nat.le_refl _) w
    rw [List.take_length] at hr
    refine ⟨_, ?_, V.mkval⟩
    simp [execOp, v1.val, v2.val, hr]) ho hg hx hy (by simp) h
theorem R.sliceTHi {T : Nat} (hT : ∀ w, (underlying T).run P w = .ok .string w) {x y : Operand} {gx gy : Bool} {l : List UInt8} {k : IntKind} {a : Int}
    (ho : all[i]? = some ⟨some d, .slice T x none (some y) none, ty, pos, aft, gd⟩ := by rfl) (hg : GuardOk (en E) all gd g gn := by first | exact gN | exact gS rfl rfl)
    (hx : lvOf (en E) x = some (gx, .t l) := by rfl) (hy : lvOf (en E) y = some (gy, .v (.int k a)) := by rfl)
    (hgx : g = true → gx = true := by first | exact fun _ => rfl | exact id) (hgy : g = true → gy = true := by first | exact fun _ => rfl | exact id)
    (ha : g = true → 0 ≤ a ∧ a ≤ l.length)
    (h : Reg P r N D B all (i + 1) ops ((i, Ct.p gn [x, y] [(gx, .t l), (gy, .v (.int k a))] (some d) (g, .t (l.take a.toNat)) []) :: tr) (st ((d, (g, .t (l.take a.toNat))) :: E) L n) K) :
    Reg P r N D B all i (⟨some d, .slice T x none (some y) none, ty, pos, aft, gd⟩ :: ops) tr (st E L n) K :=
  Reg.two rfl (fun h => by
    rw [entLV_true h hgx, entLV_true h hgy]
    refine OpC.of_pure2 (x := x) (y := y) rfl (by simp) fun md n0 cx H ρ w _ _ v1 v2 => ?_
    obtain ⟨h0, h1⟩ := ha h
    obtain ⟨m, rfl⟩ := Int.eq_ofNat_of_zero_le h0
    have hr := run_sliceT (P := P) (l := l) hT none (some (.int k m)) 0 m (.inl ⟨rfl, rfl⟩) (.inr ⟨k, rfl⟩) (by omega) (by omega) w
    rw [List.drop_zero] at hr
    refine ⟨_, ?_, V.mkval⟩
    simp [execOp, v1.val, v2.val, hr]) ho hg hx hy (by simp) h
theorem R.sliceTLoHi {T : Nat} (hT : ∀ w, (underlying T).run P w = .ok .string w) {x y z : Operand} {gx gy gz : Bool} {l : List UInt8} {k k' : IntKind} {a b : Int}
    (ho : all[i]? = some ⟨some d, .slice T x (some y) (some z) none, ty, pos, aft, gd⟩ := by rfl) (hg : GuardOk (en E) all gd g gn := by first | exact gN | exact gS rfl rfl)
    (hx : lvOf (en E) x = some (gx, .t l) := by rfl) (hy : lvOf (en E) y = some (gy, .v (.int k a)) := by rfl) (hz : lvOf (en E) z = some (gz, .v (.int k' b)) := by rfl)
    (hgx : g = true → gx = true := by first | exact fun _ => rfl | exact id) (hgy : g = true → gy = true := by first | exact fun _ => rfl | exact id) (hgz : g = true → gz = true := by first | exact fun _ => rfl | exact id)
    (ha : g = true → 0 ≤ a ∧ a ≤ b ∧ b ≤ l.length)
    (h : Reg P r N D B all (i + 1) ops ((i, Ct.p gn [x, y, z] [(gx, .t l), (gy, .v (.int k a)), (gz, .v (.int k' b))] (some d) (g, .t ((l.take b.toNat).drop a.toNat)) []) :: tr) (st ((d, (g, .t ((l.take b.toNat).drop a.toNat))) :: E) L n) K) :
    Reg P r N D B all i (⟨some d, .slice T x (some y) (some z) none, ty, pos, aft, gd⟩ :: ops) tr (st E L n) K :=
  Reg.three rfl (fun h => by
    rw [entLV_true h hgx, entLV_true h hgy, entLV_true h hgz]
    refine OpC.of_pure3 (x := x) (y := y) (z := z) rfl (by simp) fun md n0 cx H ρ w _ _ v1 v2 v3 => ?_
    obtain ⟨h0, h1, h2⟩ := ha h
    obtain ⟨m, rfl⟩ := Int.eq_ofNat_of_zero_le h0
    obtain ⟨m', rfl⟩ := Int.eq_ofNat_of_zero_le (show 0 ≤ b by omega)
    have hr := run_sliceT (P := P) (l := l) hT (some (.int k m)) (some (.int k' m')) m m' (.inr ⟨k, rfl⟩) (.inr ⟨k', rfl⟩) (by omega) (by omega) w
    refine ⟨_, ?_, V.mkval⟩
    simp [execOp, v1.val, v2.val, v3.val, hr]) ho hg hx hy hz (by simp) h

theorem run_eqlT (t : Nat) (x y : Operand) (a b : List UInt8) : ∀ w, (do eqGuard .eql t x y (.string ⟨a.toArray⟩) (.string ⟨b.toArray⟩); binOp .eql t (.string ⟨a.toArray⟩) (.string ⟨b.toArray⟩) : Sem Value).run P w = .ok (.bool (decide (a = b))) w := by
  intro w; rw [run_eqlS t x y _ _ w, byt_eq]
theorem run_neqT (t : Nat) (x y : Operand) (a b : List UInt8) : ∀ w, (do eqGuard .neq t x y (.string ⟨a.toArray⟩) (.string ⟨b.toArray⟩); binOp .neq t (.string ⟨a.toArray⟩) (.string ⟨b.toArray⟩) : Sem Value).run P w = .ok (.bool (!decide (a = b))) w := by
  intro w; rw [run_neqS t x y _ _ w, byt_eq]
theorem run_addT (t : Nat) (x y : Operand) (a b : List UInt8) (h : a.length + b.length ≤ 9223372036854775807) : ∀ w, (do eqGuard .add t x y (.string ⟨a.toArray⟩) (.string ⟨b.toArray⟩); binOp .add t (.string ⟨a.toArray⟩) (.string ⟨b.toArray⟩) : Sem Value).run P w = .ok (.string ⟨(a ++ b).toArray⟩) w := by
  intro w
  have h1 := run_string_add_sum (P := P) (w := w) ⟨a.toArray⟩ ⟨b.toArray⟩ (by rw [byt_size, byt_size]; exact h)
  rw [byt_append] at h1
  simp [eqGuard, binOp, h1]

/-- the bytes of a string, as a new slice that is written no more -/
theorem R.toBytes {s t e : Nat} (hs : P.underlying s = some .string) (ht : P.underlying t = some (.slice e)) (he : P.underlying e = some (.int .u8)) {x : Operand} {l : List UInt8}
    (ho : all[i]? = some ⟨some d, .convert s t x, ty, pos, aft, gd⟩ := by rfl) (hg : GuardOk (en E) all gd g gn := by first | exact gN | exact gS rfl rfl) {gx : Bool}
    (hx : lvOf (en E) x = some (gx, .t l) := by rfl) (hgx : g = true → gx = true := by first | exact fun _ => rfl | exact id)
    (hl : l.length ≤ 4398046511104)
    (h : Reg P r N D B all (i + 1) ops ((i, Ct.p gn [x] [(gx, .t l)] (some d) (g, .sv (.sl 1 (bytesC l))) []) :: tr) (st ((d, (g, .sv (.sl 1 (bytesC l)))) :: E) L n) K) :
    Reg P r N D B all i (⟨some d, .convert s t x, ty, pos, aft, gd⟩ :: ops) tr (st E L n) K :=
  Reg.one rfl (fun h => by
    rw [entLV_true h hgx]
    refine OpC.of_run (by simp) (by simp) fun md n0 cx H ρ w hok _ _ _ hv => ?_
    have hop : (Oper.mk (some d) (.convert s t x) ty pos aft gd).op.operands.toList = [x] := rfl
    rw [hop] at hv
    have hx' : ρ x = .string ⟨l.toArray⟩ := (Vs.one hv).val
    have hrun := run_bytes_of_string (P := P) w s t e ⟨l.toArray⟩ hs ht he
    rw [byt_size] at hrun
    have hge := grownCap_ge w l.length 0 e
    have hcm := grownCap_le_maxLen w l.length 0 e (by unfold maxLen; omega)
    generalize hcap : grownCap w l.length 0 e = cap at hrun hge hcm
    let ob : Obj := .cells (bytesRow ⟨l.toArray⟩ cap) e ((bytesRow ⟨l.toArray⟩ cap).size, (bytesRow ⟨l.toArray⟩ cap).size + 1)
    let pr' : Nat → Nat := fun b => if b = w.heap.size then l.length else cx.pr b
    let cx' : Cx := ⟨pr', cx.A, cx.loc, cx.inn⟩
    have hold : ∀ b, b < w.heap.size → (w.drew.alloc ob).heap[b]? = w.heap[b]? := fun b hb => heap_alloc_old w.drew ob hb
    have hnew : (w.drew.alloc ob).heap[w.heap.size]? = some ob := heap_alloc_new w.drew ob
    have hsz : (w.drew.alloc ob).heap.size = w.heap.size + 1 := by simp
    have hprold : ∀ b, b < w.heap.size → pr' b = cx.pr b := fun b hb => by show (if b = w.heap.size then _ else _) = _; rw [if_neg (by omega)]
    refine ⟨.value (.slice (some ⟨w.heap.size, 0, none⟩) l.length cap), _, w.drew.alloc ob, cx', ?_, .inl rfl, ⟨fun o ho => ⟨ho, rfl⟩, fun o => by simp [cx'], ⟨rfl, rfl, rfl, by omega, fun b hb _ => hold b hb, fun b hb _ => hprold b hb, fun b off hb => ?_⟩,
      ⟨fun o x hx => by simp at hx, fun o x b hx => by simp at hx, fun o o' x x' b _ hx => by simp at hx, fun b hb => ?_⟩, fun _ _ _ => rfl⟩, ?_⟩
    · simp only [execOp, hx']
      rw [Sem.run_bind, hrun]
      rfl
    · have hbs := hok.lim b (by omega)
      refine ⟨by show off < pr' b; rw [hprold b hbs]; exact hb, ?_⟩
      simp only [World.cell?, hold b hbs]
    · rcases Nat.lt_trichotomy b w.heap.size with hlt | heq | hgt
      · omega
      · omega
      · have hb' : 0 < pr' b := hb
        simp only [pr'] at hb'
        rw [if_neg (by omega)] at hb'
        have := hok.lim b hb'; omega
    · simp only [V, VS]
      right
      refine ⟨w.heap.size, 0, cap, by simp [bytesC], by simpa [bytesC] using hge, hcm, ?_, ?_⟩
      · show _ ≤ pr' w.heap.size
        simp [pr', bytesC]
      · have hcell : ∀ j, (hj : j < l.length) → (w.drew.alloc ob).cell? ⟨w.heap.size, j, none⟩ = some (.int .u8 (l[j].toNat : Int)) := by
          intro j hj
          have e1 : (bytesRow ⟨l.toArray⟩ cap)[j]? = some (.int .u8 (l[j].toNat : Int)) := by
            simp [bytesRow, Array.getElem?_append, hj]
          simp only [World.cell?, hnew, ob]
          simp [e1]
        have gen : ∀ (m : List UInt8) (off : Nat), (∀ j, (hj : j < m.length) → (w.drew.alloc ob).cell? ⟨w.heap.size, off + j, none⟩ = some (.int .u8 (m[j].toNat : Int))) → VSR pr' (w.drew.alloc ob) w.heap.size off 1 (bytesC m) := by
          intro m
          induction m with
          | nil => intro off _; simp [bytesC, VSR]
          | cons c m ih =>
            intro off hc
            simp only [bytesC, List.map_cons, VSR, VSC, VS]
            refine ⟨rfl, ⟨⟨_, by have h0 := hc 0 (by simp); simp only [Nat.add_zero] at h0; exact h0, rfl, rfl⟩, trivial⟩, ih (off + 1) (fun j hj => ?_)⟩
            have := hc (j + 1) (by simpa using hj)
            rw [show off + 1 + j = off + (j + 1) from by omega]
            simpa using this
        exact gen l 0 (fun j hj => by rw [Nat.zero_add]; exact hcell j hj)) ho hg hx (by simp) h

/-- a slice out of its elements, closed, never written again -/
theorem R.buildSliceG {t e sz : Nat} (hF : AppF P t e sz) {len : Nat} {parts : Array (Nat × Operand)} {xs : List Operand} {es : List Ent} {ls : List LV} {cs : List (List LV)} {ys : List (List SV)}
    (ho : all[i]? = some ⟨some d, .buildSlice t len parts, ty, pos, aft, gd⟩ := by rfl) (hg : GuardOk (en E) all gd g gn := by first | exact gN | exact gS rfl rfl) (hp' : parts.toList = xs.zipIdx.map (fun p => (p.2, p.1)) := by rfl)
    (hx : xs.map (lvOf (en E)) = es.map some := by rfl) (hes : g = true → es.map entLV = ls := by first | exact fun _ => rfl | (intro h; simp [entLV, h]))
    (hcs : CellsOfs ls cs) (hys : cs.map (List.map unSv) = ys := by simp only [List.map_cons, List.map_nil, entLV, unSv]; rfl)
    (hsz : (cs.all fun c => c.length == sz) = true := by rfl) (hlen : cs.length = len := by rfl)
    (hl : LV.lts 0 ls = true := by rfl) (hy : cs = ys.map (List.map LV.sv) := by rfl)
    (hsm : len * sz ≤ 16777216 := by first | decide | omega) (hlm : len ≤ 16777216 := by first | decide | omega)
    (h : Reg P r N D B all (i + 1) ops ((i, Ct.p gn xs es (some d) (g, .sv (.sl sz ys)) []) :: tr) (st ((d, (g, .sv (.sl sz ys))) :: E) L n) K) :
    Reg P r N D B all i (⟨some d, .buildSlice t len parts, ty, pos, aft, gd⟩ :: ops) tr (st E L n) K :=
  R.buildSliceF hF ys ho hg hp' hx hes hcs hsz hlen hl hy hsm hlm h

end

end Go.Proofs.Ytmiamhegohlglaa
