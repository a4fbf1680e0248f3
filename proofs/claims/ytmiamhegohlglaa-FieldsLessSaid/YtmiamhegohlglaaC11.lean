/- Slice literals; append; length and elements of a slice of one's own; the bytes of a string. -/
import Derived.Test.YtmiamhegohlglaaC10
set_option linter.unusedSimpArgs false
set_option linter.unusedVariables false
namespace Go.Proofs.Ytmiamhegohlglaa

theorem foldl_set : ∀ (vs : List Value) (k off : Nat) (C : Array Value), off + k + vs.length ≤ C.size →
    ((vs.zipIdx k).foldl (fun (cs : Array Value) p => cs.setIfInBounds (off + p.2) p.1) C).toList = C.toList.take (off + k) ++ vs ++ C.toList.drop (off + k + vs.length)
  | [], k, off, C, _ => by simp
  | v :: vs, k, off, C, h => by
    simp only [List.length_cons] at h
    simp only [List.zipIdx_cons, List.foldl_cons]
    have hs : (C.setIfInBounds (off + k) v).size = C.size := by simp
    rw [foldl_set vs (k + 1) off _ (by rw [hs]; omega)]
    have ht : (C.setIfInBounds (off + k) v).toList = C.toList.set (off + k) v := by simp
    rw [ht]
    have hlt : off + k < C.toList.length := by simp; omega
    rw [List.set_eq_take_append_cons_drop, if_pos hlt]
    have e1 : (List.take (off + k) C.toList).length = off + k := by simp; omega
    rw [List.take_append, e1, List.take_take, Nat.min_eq_right (by omega), show off + (k + 1) - (off + k) = 1 from by omega]
    rw [List.drop_append, e1, List.drop_of_length_le (l := List.take (off + k) C.toList) (by rw [e1]; omega), show off + (k + 1) + vs.length - (off + k) = vs.length + 1 from by omega]
    simp only [List.take_succ_cons, List.take_zero, List.drop_succ_cons, List.drop_drop, List.nil_append, List.length_cons, List.append_assoc, List.cons_append]
    congr 4
    all_goals omega

theorem fill_seq (sz : Nat) : ∀ (ps : List Value) (cells : List (List Value)) (k : Nat) (C : Array Value), ps.map Value.cells = cells.map List.toArray → (∀ c ∈ cells, c.length = sz) → (k + ps.length) * sz ≤ C.size →
    ∃ C', Instr.fill (fun i => some (i * sz, sz)) C ((ps.zipIdx k).map fun p => (p.2, p.1)) = some C' ∧ C'.toList = C.toList.take (k * sz) ++ cells.flatten ++ C.toList.drop ((k + ps.length) * sz)
  | [], cells, k, C, hc, _, _ => by
    have : cells = [] := by simpa using hc.symm
    subst this
    exact ⟨C, by simp [Instr.fill], by simp⟩
  | p :: ps, [], k, C, hc, _, _ => by simp at hc
  | p :: ps, c :: cells, k, C, hc, hs, hl => by
    simp only [List.map_cons, List.cons.injEq] at hc
    obtain ⟨h1, h2⟩ := hc
    have hcl : c.length = sz := hs c (by simp)
    simp only [List.length_cons] at hl
    have hk : (k + (ps.length + 1)) * sz = k * sz + sz + ps.length * sz := by rw [Nat.add_mul, Nat.add_mul]; omega
    simp only [List.zipIdx_cons, List.map_cons, Instr.fill, h1]
    rw [if_neg (by simp [hcl]; omega)]
    have hf : (c.toArray.zipIdx.foldl (fun (cs : Array Value) (x : Value × Nat) => cs.setIfInBounds (k * sz + x.2) x.1) C).toList = C.toList.take (k * sz) ++ c ++ C.toList.drop (k * sz + c.length) := by
      have := foldl_set c 0 (k * sz) C (by omega)
      simp only [Nat.add_zero] at this
      rw [← this, ← Array.foldl_toList]
      simp
    obtain ⟨C', g1, g2⟩ := fill_seq sz ps cells (k + 1) (c.toArray.zipIdx.foldl (fun (cs : Array Value) (x : Value × Nat) => cs.setIfInBounds (k * sz + x.2) x.1) C) h2 (fun c' hc' => hs c' (by simp [hc'])) (by
      have := congrArg List.length hf
      simp only [Array.length_toList, List.length_append, List.length_take, List.length_drop] at this
      rw [this, hcl]
      have : (k + 1 + ps.length) * sz = k * sz + sz + ps.length * sz := by rw [Nat.add_mul, Nat.add_mul]; omega
      omega)
    refine ⟨C', g1, ?_⟩
    rw [g2, hf]
    have e1 : (List.take (k * sz) C.toList ++ c).length = (k + 1) * sz := by simp [hcl, Nat.add_mul]; omega
    rw [List.take_append, e1, Nat.sub_self, List.take_zero, List.append_nil, List.take_of_length_le (by omega)]
    rw [List.drop_append, e1, List.drop_of_length_le (by rw [e1]; exact Nat.mul_le_mul_right _ (by omega)), List.drop_drop]
    simp only [List.nil_append, List.flatten_cons, List.append_assoc, List.length_cons]
    congr 4
    have : (k + 1 + ps.length) * sz = k * sz + sz + ps.length * sz := by rw [Nat.add_mul, Nat.add_mul]; omega
    rw [this, hk, hcl, Nat.add_mul]
    omega

/-- what an append on slices of type t asks of the types -/
def AppF (P : Program) (t e sz : Nat) : Prop := P.underlying t = some (.slice e) ∧
  ((P.info? e).map fun i => (i.size == sz && decide (i.bytes ≤ 32 * sz) && ((i.zero.map (·.cells.size)) == some sz))) = some true

theorem AppF.get {P : Program} {t e sz : Nat} (h : AppF P t e sz) : P.underlying t = some (.slice e) ∧ ∃ i z, P.info? e = some i ∧ i.zero = some z ∧ i.size = sz ∧ i.bytes ≤ 32 * sz ∧ z.cells.size = sz := by
  obtain ⟨h1, h2⟩ := h
  refine ⟨h1, ?_⟩
  cases hi : P.info? e with
  | none => rw [hi] at h2; simp at h2
  | some i =>
    rw [hi] at h2
    simp only [Option.map_some, Option.some.injEq, Bool.and_eq_true, beq_iff_eq, decide_eq_true_eq] at h2
    obtain ⟨⟨a, b⟩, c⟩ := h2
    cases hz : i.zero with
    | none => rw [hz] at c; simp at c
    | some z => rw [hz] at c; simp at c; exact ⟨i, z, rfl, hz, a, b, c⟩

section
variable {P : Program} {r : Option Nat} {N : Nat} {D : List Nat} {B : Base} {all : Array Oper} {K : List (Nat × Ct) → St → Prop}
variable {i : Nat} {ops : List Oper} {tr : List (Nat × Ct)} {E : List (Nat × Ent)} {L : List (Nat × LO)} {n : Nat} {g : Bool} {gn : List (Nat × Ent)}
variable {d ty : Nat} {pos : String} {aft : Array Edge} {gd : Option (Nat × Bool)}

/-- cells of several values -/
def CellsOfs : List LV → List (List LV) → Prop
  | [], cs => cs = []
  | l :: ls, cs => ∃ c r, cs = c :: r ∧ CellsOf l c ∧ CellsOfs ls r

theorem CellsOfs.nil : CellsOfs [] [] := rfl
theorem CellsOfs.cons {l : LV} {ls : List LV} {c : List LV} {cs : List (List LV)} (h : CellsOf l c) (t : CellsOfs ls cs) : CellsOfs (l :: ls) (c :: cs) := ⟨c, cs, rfl, h, t⟩

theorem CellsOfs.get : ∀ {ls : List LV} {cs : List (List LV)}, CellsOfs ls cs → ∀ {cx : Cx} {w : World} {vs : List Value}, Vs cx w ls vs →
    ∃ us : List (List Value), vs.map Value.cells = us.map List.toArray ∧ us.length = cs.length ∧ (∀ (j : Nat) (u : List Value) (c : List LV), us[j]? = some u → cs[j]? = some c → u.length = c.length) ∧ Vs cx w cs.flatten us.flatten ∧ ∀ u ∈ us.flatten, u.oneCell' = true
  | [], cs, h, cx, w, vs, hv => by
    simp only [CellsOfs] at h; subst h
    simp only [Vs] at hv; subst hv
    exact ⟨[], by simp, by simp, by simp, by simp [Vs], by simp⟩
  | l :: ls, cs, h, cx, w, vs, hv => by
    obtain ⟨c, r', rfl, h1, h2⟩ := h
    simp only [Vs] at hv
    obtain ⟨y, ys, rfl, hy, hys⟩ := hv
    obtain ⟨u, k1, k2, k3⟩ := h1 cx w y hy
    obtain ⟨us, g1, g2, g3, g4, g5⟩ := CellsOfs.get h2 hys
    refine ⟨u :: us, by simp [k1, g1], by simp [g2], fun j u' c' hu hc => ?_, by simp only [List.flatten_cons]; exact Vs.append k2 g4, fun v hv => ?_⟩
    · cases j with
      | zero => simp at hu hc; subst hu; subst hc; exact k2.length
      | succ j => exact g3 j u' c' (by simpa using hu) (by simpa using hc)
    · simp only [List.flatten_cons, List.mem_append] at hv
      rcases hv with hv | hv
      · exact k3 v hv
      · exact g5 v hv

theorem row_new {T sz : Nat} {md : Nat → Prop} {n0 : Nat} {H : Hp} {cx : Cx} {w w0 : World} (h : HOk md n0 cx H w) {o : Nat} (ho : ¬ cx.A o) (hw : w0.heap = w.heap ∧ w0.os = w.os ∧ w0.tape = w.tape ∧ w0.output = w.output)
    {xs : List (List LV)} {vs : List Value} (hsz : ∀ e ∈ xs, e.length = sz) (hv : Vs cx w xs.flatten vs) (hone : ∀ u ∈ vs, u.oneCell' = true) {cells : Array Value} {cap : Nat} (hlen : xs.length ≤ cap) (hcap : cap ≤ maxLen) (hcs : cells.size = cap * sz) (htk : cells.toList.take (xs.length * sz) = vs) :
    ∃ cx', Tr cx w (hp []) cx' (w0.alloc (.cells cells T)) (hp [(o, .row T sz xs)]) (· ∈ [o]) ∧ V cx' (w0.alloc (.cells cells T)) (.ref o) (.slice (some ⟨w.heap.size, 0, none⟩) xs.length cap) := by
  have hnew : (w0.alloc (.cells cells T)).heap[w.heap.size]? = some (.cells cells T) := by rw [← hw.1]; exact heap_alloc_new w0 _
  obtain ⟨cx', h1, h2, h3, h4⟩ := Tr.new (w0 := w0) h (ob := .cells cells T) (o := o) ho (lv := .slice (some ⟨w.heap.size, 0, none⟩) xs.length cap) (x := .row T sz xs) hw rfl (fun cx' e1 e2 e3 e4 => by
    have hvl : vs.length = xs.length * sz := by
      rw [hv.length, List.length_flatten]
      have : xs.map List.length = List.replicate xs.length sz := by
        rw [List.eq_replicate_iff]
        refine ⟨by simp, fun b hb => ?_⟩
        obtain ⟨e, he, rfl⟩ := List.mem_map.1 hb
        exact hsz e he
      rw [this]; simp
    refine ⟨hsz, vs, ⟨hvl, .inr ⟨w.heap.size, cap, cells, e1, Nat.zero_le _, hnew, hlen, hcap, hcs, htk⟩⟩, Vs.mono e3 (fun b off hb => ?_) _ vs hv, hone⟩
    rw [e4]
    refine ⟨hb, ?_⟩
    have := h.lim b (by omega)
    simp only [World.cell?, heap_alloc_old w0 (.cells cells T) (by rw [hw.1]; exact this), hw.1])
  refine ⟨cx', h1, ?_⟩
  simp only [V]
  exact ⟨h2, h3.symm, rfl⟩

theorem OpC.buildSlice {t e sz : Nat} (hF : AppF P t e sz) {o : Oper} {len : Nat} {parts : Array (Nat × Operand)} {xs : List Operand} {ls : List LV} {cs : List (List LV)}
    (ho : o.op = .buildSlice t len parts) (hdd : ∀ c, o.op ≠ .defer c) (hp' : parts.toList = xs.zipIdx.map (fun p => (p.2, p.1)))
    (hcs : CellsOfs ls cs) (hsz : (cs.all fun c => c.length == sz) = true) (hlen : cs.length = len) (hsm : len * sz ≤ 16777216) (hlm : len ≤ 16777216) (n : Nat) :
    OpC P r o ls [] [] (.ref n) [(n, .row e sz cs)] [n] := by
  have hl : o.op.operands.toList = xs := by
    rw [ho]
    show (parts.toList.map (·.2)).toArray.toList = xs
    rw [hp']
    simp only [List.map_map, List.toList_toArray]
    have : ((fun (x : Nat × Operand) => x.2) ∘ fun (p : Operand × Nat) => (p.2, p.1)) = Prod.fst := rfl
    rw [this]; simp
  refine OpC.of_run hdd (by simp) fun md n0 cx H ρ w hok _ _ hnew hv => ?_
  obtain ⟨ht, i0, z, hi, hz, hisz, _, hzs⟩ := hF.get
  rw [hl] at hv
  obtain ⟨us, g1, g2, g3, g4, g5⟩ := hcs.get hv
  have hcl : ∀ c ∈ cs, c.length = sz := fun c hc => by simpa using List.all_eq_true.1 hsz c hc
  have hul : ∀ u ∈ us, u.length = sz := by
    intro u hu
    obtain ⟨j, hj⟩ := List.getElem?_of_mem hu
    have hjl : j < cs.length := by rw [← g2]; exact (List.getElem?_eq_some_iff.1 hj).1
    rw [g3 j u cs[j] hj (List.getElem?_eq_getElem hjl)]
    exact hcl _ (List.getElem_mem hjl)
  have hxl : xs.length = len := by
    have h1 := congrArg List.length g1
    simp only [List.length_map] at h1
    omega
  have hus : us.flatten.length = len * sz := by
    rw [List.length_flatten]
    have : us.map List.length = List.replicate us.length sz := by
      rw [List.eq_replicate_iff]
      refine ⟨by simp, fun b hb => ?_⟩
      obtain ⟨e, he, rfl⟩ := List.mem_map.1 hb
      exact hul e he
    rw [this]; simp only [List.sum_replicate_nat]; rw [show us.length = len from by omega]
  let C0 : Array Value := (Array.range (len * sz)).map (fun k => (if len * sz = 0 then #[] else z.cells)[k % (if len * sz = 0 then #[] else z.cells).size]!)
  have hC0 : C0.size = len * sz := by simp [C0]
  obtain ⟨C', f1, f2⟩ := fill_seq sz (xs.map ρ) us 0 C0 g1 hul (by rw [List.length_map, hC0, hxl]; simp)
  have hC' : C'.toList = us.flatten := by
    rw [f2]
    simp only [Nat.zero_mul, List.take_zero, List.nil_append, Nat.zero_add, List.length_map, hxl]
    rw [List.drop_of_length_le (by simp [hC0])]; simp
  have hCs : C'.size = len * sz := by rw [← Array.length_toList, hC', hus]
  obtain ⟨cx', t1, hv'⟩ := row_new (T := e) (w0 := w) (xs := cs) (cells := C') (cap := len) hok (hnew n (by simp)) ⟨rfl, rfl, rfl, rfl⟩ hcl g4 g5 (by omega) (by unfold maxLen; omega) hCs (by rw [hC', hlen]; exact List.take_of_length_le (by omega))
  rw [hlen] at hv'
  refine ⟨_, _, _, cx', ?_, .inl rfl, t1, hv'⟩
  have hp2 : (parts.map fun x => (x.1, ρ x.2)).toList = ((xs.map ρ).zipIdx 0).map fun p => (p.2, p.1) := by
    rw [Array.toList_map, hp']
    simp only [List.map_map, List.zipIdx_map]
    rfl
  have hop : (parts.map fun x => (x.1, ρ x.2)) = (((xs.map ρ).zipIdx 0).map fun p => (p.2, p.1)).toArray := by rw [← hp2]
  have hbig : ¬ len * sz > 16777216 := by omega
  have hfill : Instr.fill (fun i => some (i * sz, sz)) ((Array.range (len * sz)).map (fun k => (if len * sz = 0 then #[] else z.cells)[k % (if len * sz = 0 then #[] else z.cells).size]!)) (((xs.map ρ).zipIdx 0).map fun p => (p.2, p.1)) = some C' := f1
  by_cases h0 : len * sz = 0
  · simp only [h0, if_true] at hfill
    simp [execOp, ho, Instr.buildSlice, run_underlying ht, sizeOf, typeInfo, hi, hisz, hop, h0, newRow]
    simp at hfill
    rw [hfill]
    simp
  · simp only [h0, if_false] at hfill
    simp only [execOp, ho, Instr.buildSlice, hop]
    simp [run_underlying ht, sizeOf, typeInfo, zeroValue, hi, hz, hisz, h0, newRow]
    rw [if_neg hbig]
    rw [hfill]
    simp


theorem R.buildSlice {t e sz : Nat} (hF : AppF P t e sz) {len : Nat} {parts : Array (Nat × Operand)} {xs : List Operand} {es : List Ent} {cs : List (List LV)}
    (ho : all[i]? = some ⟨some d, .buildSlice t len parts, ty, pos, aft, none⟩ := by rfl) (hp' : parts.toList = xs.zipIdx.map (fun p => (p.2, p.1)) := by rfl)
    (hx : xs.map (lvOf (en E)) = es.map some := by rfl) (hcs : CellsOfs (es.map entLV) cs := by repeat (first | exact CellsOfs.nil | refine CellsOfs.cons (CellsOf.one rfl) ?_ | refine CellsOfs.cons (CellsOf.agg rfl) ?_)) (hsz : (cs.all fun c => c.length == sz) = true := by rfl) (hlen : cs.length = len := by rfl)
    (hsm : len * sz ≤ 16777216 := by first | decide | omega) (hlm : len ≤ 16777216 := by first | decide | omega)
    (h : Reg P r N D B all (i + 1) ops ((i, ⟨needOf xs es, some d, (true, .ref n), [], [], [(n, .row e sz cs)], [n]⟩) :: tr) (st ((d, (true, .ref n)) :: E) ((n, .row e sz cs) :: L) (n + 1)) K) :
    Reg P r N D B all i (⟨some d, .buildSlice t len parts, ty, pos, aft, none⟩ :: ops) tr (st E L n) K := by
  have hl : (Oper.mk (some d) (.buildSlice t len parts) ty pos aft none).op.operands.toList = xs := by
    show (parts.toList.map (·.2)).toArray.toList = xs
    rw [hp']
    simp only [List.map_map, List.toList_toArray]
    have : ((fun (x : Nat × Operand) => x.2) ∘ fun (p : Operand × Nat) => (p.2, p.1)) = Prod.fst := rfl
    rw [this]; simp
  exact Reg.new (es := es) (rd := []) ho gN (by rw [hl]; exact Opnds.of_map hx) (by simp) (OpC.buildSlice hF rfl (by simp) hp' hcs hsz hlen hsm hlm n) (by rw [hl]; exact h)

end

end Go.Proofs.Ytmiamhegohlglaa
