/- Stores of aggregates, sums without a wrap, strings. -/
import Derived.Test.YtmiamhegohlglaaC7
set_option linter.unusedSimpArgs false
set_option linter.unusedVariables false
namespace Go.Proofs.Ytmiamhegohlglaa

theorem wrap_i64 {x : Int} (h : -9223372036854775808 ≤ x) (h' : x ≤ 9223372036854775807) : IntKind.i64.wrap x = x := IntWalk.i64_in x ⟨h, h'⟩
theorem wrap_u {k : IntKind} (hk : k.signed = false) {x : Int} (h : 0 ≤ x) (h' : x < 2 ^ k.bits) : k.wrap x = x := by
  cases k <;> simp_all [IntKind.wrap, IntKind.signed, IntKind.bits] <;> omega

section
variable {P : Program} {r : Option Nat} {N : Nat} {D : List Nat} {B : Base} {all : Array Oper} {K : List (Nat × Ct) → St → Prop}
variable {i : Nat} {ops : List Oper} {tr : List (Nat × Ct)} {E : List (Nat × Ent)} {L : List (Nat × LO)} {n : Nat} {g : Bool} {gn : List (Nat × Ent)}
variable {d ty : Nat} {pos : String} {aft : Array Edge} {gd : Option (Nat × Bool)}

theorem R.add {t yt : Nat} {x y : Operand} {gx gy : Bool} {k : IntKind} {a b : Int} (ho : all[i]? = some ⟨some d, .binOp .add t x y yt, ty, pos, aft, gd⟩ := by rfl) (hg : GuardOk (en E) all gd g gn := by first | exact gN | exact gS rfl rfl)
    (hx : lvOf (en E) x = some (gx, .v (.int k a)) := by rfl) (hy : lvOf (en E) y = some (gy, .v (.int k b)) := by rfl)
    (hgx : g = true → gx = true := by first | exact fun _ => rfl | exact id) (hgy : g = true → gy = true := by first | exact fun _ => rfl | exact id)
    (hw : k.wrap (a + b) = a + b := by first | exact wrap_i64 (by omega) (by omega) | exact wrap_u rfl (by omega) (by (try simp only [IntKind.bits]); omega))
    (h : Reg P r N D B all (i + 1) ops ((i, Ct.p gn [x, y] [(gx, .v (.int k a)), (gy, .v (.int k b))] (some d) (g, .v (.int k (a + b))) []) :: tr) (st ((d, (g, .v (.int k (a + b)))) :: E) L n) K) :
    Reg P r N D B all i (⟨some d, .binOp .add t x y yt, ty, pos, aft, gd⟩ :: ops) tr (st E L n) K :=
  R.bin (run_add t x y k a b hw) ho hg hx hy hgx hgy h
theorem R.addW {t yt : Nat} {x y : Operand} {gx gy : Bool} {k : IntKind} {a b : Int} (ho : all[i]? = some ⟨some d, .binOp .add t x y yt, ty, pos, aft, gd⟩ := by rfl) (hg : GuardOk (en E) all gd g gn := by first | exact gN | exact gS rfl rfl)
    (hx : lvOf (en E) x = some (gx, .v (.int k a)) := by rfl) (hy : lvOf (en E) y = some (gy, .v (.int k b)) := by rfl)
    (hgx : g = true → gx = true := by first | exact fun _ => rfl | exact id) (hgy : g = true → gy = true := by first | exact fun _ => rfl | exact id)
    (h : Reg P r N D B all (i + 1) ops ((i, Ct.p gn [x, y] [(gx, .v (.int k a)), (gy, .v (.int k b))] (some d) (g, .v (.int k (k.wrap (a + b)))) []) :: tr) (st ((d, (g, .v (.int k (k.wrap (a + b))))) :: E) L n) K) :
    Reg P r N D B all i (⟨some d, .binOp .add t x y yt, ty, pos, aft, gd⟩ :: ops) tr (st E L n) K :=
  R.bin (run_addW t x y k a b) ho hg hx hy hgx hgy h
theorem R.sub {t yt : Nat} {x y : Operand} {gx gy : Bool} {k : IntKind} {a b : Int} (ho : all[i]? = some ⟨some d, .binOp .sub t x y yt, ty, pos, aft, gd⟩ := by rfl) (hg : GuardOk (en E) all gd g gn := by first | exact gN | exact gS rfl rfl)
    (hx : lvOf (en E) x = some (gx, .v (.int k a)) := by rfl) (hy : lvOf (en E) y = some (gy, .v (.int k b)) := by rfl)
    (hgx : g = true → gx = true := by first | exact fun _ => rfl | exact id) (hgy : g = true → gy = true := by first | exact fun _ => rfl | exact id)
    (hw : k.wrap (a - b) = a - b := by first | exact wrap_i64 (by omega) (by omega) | exact wrap_u rfl (by omega) (by (try simp only [IntKind.bits]); omega))
    (h : Reg P r N D B all (i + 1) ops ((i, Ct.p gn [x, y] [(gx, .v (.int k a)), (gy, .v (.int k b))] (some d) (g, .v (.int k (a - b))) []) :: tr) (st ((d, (g, .v (.int k (a - b)))) :: E) L n) K) :
    Reg P r N D B all i (⟨some d, .binOp .sub t x y yt, ty, pos, aft, gd⟩ :: ops) tr (st E L n) K :=
  R.bin (run_sub t x y k a b hw) ho hg hx hy hgx hgy h
theorem R.subW {t yt : Nat} {x y : Operand} {gx gy : Bool} {k : IntKind} {a b : Int} (ho : all[i]? = some ⟨some d, .binOp .sub t x y yt, ty, pos, aft, gd⟩ := by rfl) (hg : GuardOk (en E) all gd g gn := by first | exact gN | exact gS rfl rfl)
    (hx : lvOf (en E) x = some (gx, .v (.int k a)) := by rfl) (hy : lvOf (en E) y = some (gy, .v (.int k b)) := by rfl)
    (hgx : g = true → gx = true := by first | exact fun _ => rfl | exact id) (hgy : g = true → gy = true := by first | exact fun _ => rfl | exact id)
    (h : Reg P r N D B all (i + 1) ops ((i, Ct.p gn [x, y] [(gx, .v (.int k a)), (gy, .v (.int k b))] (some d) (g, .v (.int k (k.wrap (a - b)))) []) :: tr) (st ((d, (g, .v (.int k (k.wrap (a - b))))) :: E) L n) K) :
    Reg P r N D B all i (⟨some d, .binOp .sub t x y yt, ty, pos, aft, gd⟩ :: ops) tr (st E L n) K :=
  R.bin (run_subW t x y k a b) ho hg hx hy hgx hgy h
theorem R.mul {t yt : Nat} {x y : Operand} {gx gy : Bool} {k : IntKind} {a b : Int} (ho : all[i]? = some ⟨some d, .binOp .mul t x y yt, ty, pos, aft, gd⟩ := by rfl) (hg : GuardOk (en E) all gd g gn := by first | exact gN | exact gS rfl rfl)
    (hx : lvOf (en E) x = some (gx, .v (.int k a)) := by rfl) (hy : lvOf (en E) y = some (gy, .v (.int k b)) := by rfl)
    (hgx : g = true → gx = true := by first | exact fun _ => rfl | exact id) (hgy : g = true → gy = true := by first | exact fun _ => rfl | exact id)
    (hw : k.wrap (a * b) = a * b := by first | exact wrap_i64 (by omega) (by omega) | exact wrap_u rfl (by omega) (by (try simp only [IntKind.bits]); omega))
    (h : Reg P r N D B all (i + 1) ops ((i, Ct.p gn [x, y] [(gx, .v (.int k a)), (gy, .v (.int k b))] (some d) (g, .v (.int k (a * b))) []) :: tr) (st ((d, (g, .v (.int k (a * b)))) :: E) L n) K) :
    Reg P r N D B all i (⟨some d, .binOp .mul t x y yt, ty, pos, aft, gd⟩ :: ops) tr (st E L n) K :=
  R.bin (run_mul t x y k a b hw) ho hg hx hy hgx hgy h
theorem R.mulW {t yt : Nat} {x y : Operand} {gx gy : Bool} {k : IntKind} {a b : Int} (ho : all[i]? = some ⟨some d, .binOp .mul t x y yt, ty, pos, aft, gd⟩ := by rfl) (hg : GuardOk (en E) all gd g gn := by first | exact gN | exact gS rfl rfl)
    (hx : lvOf (en E) x = some (gx, .v (.int k a)) := by rfl) (hy : lvOf (en E) y = some (gy, .v (.int k b)) := by rfl)
    (hgx : g = true → gx = true := by first | exact fun _ => rfl | exact id) (hgy : g = true → gy = true := by first | exact fun _ => rfl | exact id)
    (h : Reg P r N D B all (i + 1) ops ((i, Ct.p gn [x, y] [(gx, .v (.int k a)), (gy, .v (.int k b))] (some d) (g, .v (.int k (k.wrap (a * b)))) []) :: tr) (st ((d, (g, .v (.int k (k.wrap (a * b))))) :: E) L n) K) :
    Reg P r N D B all i (⟨some d, .binOp .mul t x y yt, ty, pos, aft, gd⟩ :: ops) tr (st E L n) K :=
  R.bin (run_mulW t x y k a b) ho hg hx hy hgx hgy h
theorem R.convI {s t : Nat} {x : Operand} {gx : Bool} {k k' : IntKind} {a : Int} {ds : TypeDesc} (hs : ∀ w, (underlying s).run P w = .ok ds w) (ht : ∀ w, (underlying t).run P w = .ok (.int k') w)
    (ho : all[i]? = some ⟨some d, .convert s t x, ty, pos, aft, gd⟩ := by rfl) (hg : GuardOk (en E) all gd g gn := by first | exact gN | exact gS rfl rfl)
    (hx : lvOf (en E) x = some (gx, .v (.int k a)) := by rfl) (hgx : g = true → gx = true := by first | exact fun _ => rfl | exact id)
    (hw : k'.wrap a = a := by first | exact wrap_i64 (by omega) (by omega) | exact wrap_u rfl (by omega) (by (try simp only [IntKind.bits]); omega))
    (h : Reg P r N D B all (i + 1) ops ((i, Ct.p gn [x] [(gx, .v (.int k a))] (some d) (g, .v (.int k' a)) []) :: tr) (st ((d, (g, .v (.int k' a))) :: E) L n) K) :
    Reg P r N D B all i (⟨some d, .convert s t x, ty, pos, aft, gd⟩ :: ops) tr (st E L n) K :=
  R.conv (by have := run_convI (P := P) (k := k) (a := a) hs ht; rwa [hw] at this) ho hg hx hgx h
theorem R.convW {s t : Nat} {x : Operand} {gx : Bool} {k k' : IntKind} {a : Int} {ds : TypeDesc} (hs : ∀ w, (underlying s).run P w = .ok ds w) (ht : ∀ w, (underlying t).run P w = .ok (.int k') w)
    (ho : all[i]? = some ⟨some d, .convert s t x, ty, pos, aft, gd⟩ := by rfl) (hg : GuardOk (en E) all gd g gn := by first | exact gN | exact gS rfl rfl)
    (hx : lvOf (en E) x = some (gx, .v (.int k a)) := by rfl) (hgx : g = true → gx = true := by first | exact fun _ => rfl | exact id)
    (h : Reg P r N D B all (i + 1) ops ((i, Ct.p gn [x] [(gx, .v (.int k a))] (some d) (g, .v (.int k' (k'.wrap a))) []) :: tr) (st ((d, (g, .v (.int k' (k'.wrap a)))) :: E) L n) K) :
    Reg P r N D B all i (⟨some d, .convert s t x, ty, pos, aft, gd⟩ :: ops) tr (st E L n) K :=
  R.conv (run_convI hs ht) ho hg hx hgx h

/-- the whole of a box is written -/
theorem R.storeA {T TB sz : Nat} (hF : AggF P T sz) {x y : Operand} {o : Nat} {cs ds : List LV}
    (ho : all[i]? = some ⟨none, .store T x y, ty, pos, aft, none⟩ := by rfl)
    (hx : lvOf (en E) x = some (true, .ptr o 0) := by rfl) (hy : lvOf (en E) y = some (true, .agg ds) := by rfl) (h1 : ds.all LV.one = true := by rfl) (hb : hp L o = some (.box TB cs) := by rfl) (hlt : cs.length = sz := by rfl) (hlt' : ds.length = sz := by rfl)
    (h : Reg P r N D B all (i + 1) ops ((i, ⟨needOf [x, y] [(true, .ptr o 0), (true, .agg ds)], none, (true, .v undef), [], [(o, .box TB cs)], [(o, .box TB ds)], []⟩) :: tr) (st E ((o, .box TB ds) :: L) n) K) :
    Reg P r N D B all i (⟨none, .store T x y, ty, pos, aft, none⟩ :: ops) tr (st E L n) K :=
  Reg.set (es := [(true, .ptr o 0), (true, .agg ds)]) (rd := []) ho gN ⟨_, _, rfl, hx, _, _, rfl, hy, rfl⟩ (by simp) hb (OpC.of_run (by simp) (by simp) fun md n0 cx H ρ w hok _ hHi _ hv => by
    obtain ⟨v1, v2⟩ := Vs.two hv
    simp only [entLV] at v1 v2
    have hob := hHi o (.box TB cs) (by simp)
    obtain ⟨hA, b', vs, k1, k2, k3⟩ := hok.ok o _ hob
    simp only [V] at v1 v2
    obtain ⟨_, b, hbk, he⟩ := v1
    obtain ⟨us, hu, hus⟩ := v2
    have hbk' := hbk
    rw [k1] at hbk
    simp only [bk, Option.some.injEq] at hbk
    subst hbk
    have hul : us.length = sz := hus.length.trans hlt'
    have hvl : vs.length = sz := k3.length.trans hlt
    have hst := run_storeCells_from (P := P) b' TB us 0 vs.toArray w k2 (by simp; omega) (Vs.ones h1 hus)
    simp only [List.take_zero, List.nil_append] at hst
    refine ⟨.skip, undef, w.setRow b' us.toArray, cx, ?_, .inr ⟨rfl, rfl⟩, Tr.set hok hob hbk' ⟨rfl, rfl, rfl⟩ (by simp [World.setRow]) (fun k hk => setRow_other w b' k _ hk) (fun hext => ?_), V.mkval⟩
    · simp [execOp, he, hu, Instr.storeAt, Instr.sureAddr, storeVar, Value.cells, hF.2 w, hul, hst]
    · exact ⟨b', us, k1, setRow_heap w b' _ _ TB (0, 0) k2, Vs.mono (CxLe.refl _) hext _ _ hus⟩) h

end

end Go.Proofs.Ytmiamhegohlglaa
