/- Slices of integers and of bytes as lists; shifts and ors; calls with objects. -/
import Derived.Test.YtmiamhegohlglaaC20
set_option linter.unusedSimpArgs false
set_option linter.unusedVariables false
namespace Go.Proofs.Ytmiamhegohlglaa

/-- the elements of a slice of integers -/
def ic (k : IntKind) (l : List Int) : List (List SV) := l.map fun x => [.val (.int k x)]
theorem ic_nil (k : IntKind) : ic k [] = [] := rfl
theorem ic_app (k : IntKind) (l m : List Int) : ic k (l ++ m) = ic k l ++ ic k m := by simp [ic]
theorem ic_len (k : IntKind) (l : List Int) : (ic k l).length = l.length := by simp [ic]
theorem ic_one (k : IntKind) (l : List Int) : ∀ e ∈ ic k l, e.length = 1 := by simp [ic]
theorem ic_get {k : IntKind} {l : List Int} {j : Nat} {x : Int} (h : l[j]? = some x) : (ic k l)[j]? = some [.val (.int k x)] := by simp [ic, h]
theorem ic_take (k : IntKind) (l : List Int) (n : Nat) : (ic k l).take n = ic k (l.take n) := by simp [ic, List.map_take]
theorem ic_drop (k : IntKind) (l : List Int) (n : Nat) : (ic k l).drop n = ic k (l.drop n) := by simp [ic, List.map_drop]
theorem ic_snoc (k : IntKind) (l : List Int) (x : Int) : ic k l ++ [[.val (.int k x)]] = ic k (l ++ [x]) := by simp [ic]
theorem bytesC_nil : bytesC [] = [] := rfl
theorem bytesC_app (l m : List UInt8) : bytesC (l ++ m) = bytesC l ++ bytesC m := by simp [bytesC]
theorem bytesC_length (l : List UInt8) : (bytesC l).length = l.length := by simp [bytesC]
theorem bytesC_one (l : List UInt8) : ∀ e ∈ bytesC l, e.length = 1 := by simp [bytesC]
theorem bytesC_get {l : List UInt8} {j : Nat} {x : UInt8} (h : l[j]? = some x) : (bytesC l)[j]? = some [.val (.int .u8 x.toNat)] := by simp [bytesC, h]
theorem bytesC_take (l : List UInt8) (n : Nat) : (bytesC l).take n = bytesC (l.take n) := by simp [bytesC, List.map_take]
theorem bytesC_drop (l : List UInt8) (n : Nat) : (bytesC l).drop n = bytesC (l.drop n) := by simp [bytesC, List.map_drop]
theorem bytesC_snoc (l : List UInt8) (c : UInt8) : bytesC l ++ [[.val (.int .u8 c.toNat)]] = bytesC (l ++ [c]) := by simp [bytesC]
/-- an integer as a byte -/
def byt (n : Int) : UInt8 := UInt8.ofNat n.toNat
theorem byt_toNat (n : Int) (h0 : 0 ≤ n) (h1 : n < 256) : ((byt n).toNat : Int) = n := by
  simp only [byt, UInt8.toNat_ofNat']; omega
theorem byt_of (c : UInt8) : byt (c.toNat : Int) = c := by
  simp only [byt, Int.toNat_natCast]; exact UInt8.ofNat_toNat
theorem ic_byt (l : List Int) (h : ∀ x ∈ l, 0 ≤ x ∧ x < 256) : ic .u8 l = bytesC (l.map byt) := by
  simp only [ic, bytesC, List.map_map]
  exact List.map_congr_left (fun x hx => by simp only [Function.comp]; rw [byt_toNat x (h x hx).1 (h x hx).2])
theorem bytesC_ic (l : List UInt8) : bytesC l = ic .u8 (l.map fun c => (c.toNat : Int)) := by simp [bytesC, ic, List.map_map, Function.comp]
theorem u8_lt (c : UInt8) : (c.toNat : Int) < 256 := by have := c.toNat_lt; omega
theorem u8_ge (c : UInt8) : (0 : Int) ≤ c.toNat := by omega

section
variable {P : Program}
theorem run_shlE (t : Nat) (x y : Operand) (k yk : IntKind) (a b : Int) {v : Int} (hb : 0 ≤ b) (hv : k.wrap (a * 2 ^ (min b.toNat k.bits)) = v) : ∀ w, (do eqGuard .shl t x y (.int k a) (.int yk b); binOp .shl t (.int k a) (.int yk b) : Sem Value).run P w = .ok (.int k v) w := by
  subst hv; exact run_shl t x y k yk a b hb
theorem run_orE (t : Nat) (x y : Operand) (k : IntKind) (a b : Int) {v : Int} (hv : k.wrap ((BitVec.ofInt k.bits a ||| BitVec.ofInt k.bits b).toNat) = v) : ∀ w, (do eqGuard .or t x y (.int k a) (.int k b); binOp .or t (.int k a) (.int k b) : Sem Value).run P w = .ok (.int k v) w := by
  subst hv; exact run_or t x y k a b
theorem run_andE (t : Nat) (x y : Operand) (k : IntKind) (a b : Int) {v : Int} (hv : k.wrap ((BitVec.ofInt k.bits a &&& BitVec.ofInt k.bits b).toNat) = v) : ∀ w, (do eqGuard .and t x y (.int k a) (.int k b); binOp .and t (.int k a) (.int k b) : Sem Value).run P w = .ok (.int k v) w := by
  subst hv; exact run_and t x y k a b
theorem or_low (m a c s : Nat) (hc : c < 2 ^ s) (h : a * 2 ^ s + c < 2 ^ m) : (BitVec.ofInt m ((a : Int) * 2 ^ s) ||| BitVec.ofInt m (c : Int)).toNat = a * 2 ^ s + c := by
  have h1 : (a : Int) * 2 ^ s = ((a * 2 ^ s : Nat) : Int) := by push_cast; rfl
  rw [h1, BitVec.toNat_or]
  simp only [BitVec.ofInt_natCast, BitVec.toNat_ofNat]
  rw [Nat.mod_eq_of_lt (by omega), Nat.mod_eq_of_lt (by omega), Nat.mul_comm a, Nat.two_pow_add_eq_or_of_lt hc]
theorem or_low_i64 (a c : Int) (s : Nat) (ha : 0 ≤ a) (hc : 0 ≤ c) (hc' : c < 2 ^ s) (h : a * 2 ^ s + c < 9223372036854775808) : IntKind.i64.wrap ((BitVec.ofInt IntKind.i64.bits (a * 2 ^ s) ||| BitVec.ofInt IntKind.i64.bits c).toNat) = a * 2 ^ s + c := by
  obtain ⟨a, rfl⟩ := Int.eq_ofNat_of_zero_le ha
  obtain ⟨c, rfl⟩ := Int.eq_ofNat_of_zero_le hc
  have h' : a * 2 ^ s + c < 9223372036854775808 := by
    have e : ((a * 2 ^ s + c : Nat) : Int) < ((9223372036854775808 : Nat) : Int) := by rw [Int.natCast_add, Int.natCast_mul, Int.natCast_pow]; exact h
    exact Int.ofNat_lt.1 e
  have hc1 : c < 2 ^ s := by
    have e : (c : Int) < ((2 ^ s : Nat) : Int) := by push_cast; exact hc'
    exact Int.ofNat_lt.1 e
  show IntKind.i64.wrap (((BitVec.ofInt 64 ((a : Int) * 2 ^ s) ||| BitVec.ofInt 64 (c : Int)).toNat : Nat) : Int) = _
  rw [or_low 64 a c s hc1 (by omega)]
  push_cast
  refine wrap_i64 ?_ (by omega)
  have : (0 : Int) ≤ (a : Int) * 2 ^ s := Int.mul_nonneg ha (Int.le_of_lt (Int.pow_pos (by omega)))
  omega
theorem or_low_u64 (a c : Int) (s : Nat) (ha : 0 ≤ a) (hc : 0 ≤ c) (hc' : c < 2 ^ s) (h : a * 2 ^ s + c < 18446744073709551616) : IntKind.u64.wrap ((BitVec.ofInt IntKind.u64.bits (a * 2 ^ s) ||| BitVec.ofInt IntKind.u64.bits c).toNat) = a * 2 ^ s + c := by
  obtain ⟨a, rfl⟩ := Int.eq_ofNat_of_zero_le ha
  obtain ⟨c, rfl⟩ := Int.eq_ofNat_of_zero_le hc
  have h' : a * 2 ^ s + c < 18446744073709551616 := by
    have e : ((a * 2 ^ s + c : Nat) : Int) < ((18446744073709551616 : Nat) : Int) := by rw [Int.natCast_add, Int.natCast_mul, Int.natCast_pow]; exact h
    exact Int.ofNat_lt.1 e
  have hc1 : c < 2 ^ s := by
    have e : (c : Int) < ((2 ^ s : Nat) : Int) := by push_cast; exact hc'
    exact Int.ofNat_lt.1 e
  show IntKind.u64.wrap (((BitVec.ofInt 64 ((a : Int) * 2 ^ s) ||| BitVec.ofInt 64 (c : Int)).toNat : Nat) : Int) = _
  rw [or_low 64 a c s hc1 (by omega)]
  push_cast
  have : (0 : Int) ≤ (a : Int) * 2 ^ s := Int.mul_nonneg ha (Int.le_of_lt (Int.pow_pos (by omega)))
  exact wrap_u rfl (by omega) (by simp only [IntKind.bits]; exact h)
end

section
variable {P : Program} {r : Option Nat} {N : Nat} {D : List Nat} {B : Base} {all : Array Oper} {K : List (Nat × Ct) → St → Prop}
variable {i : Nat} {ops : List Oper} {tr : List (Nat × Ct)} {E : List (Nat × Ent)} {L : List (Nat × LO)} {n : Nat} {gn : List (Nat × Ent)}
variable {d ty : Nat} {pos : String} {aft : Array Edge}

/-- a call with objects: ids are their names here -/
theorem R.callX {f k : Nat} {fo : Operand} {args : Array Operand} {ats : Array TypeId} {es : List Ent} {lvs first cap : List LV} {out out' : LV} {Hi Hi' Ho Ho' : List (Nat × LO)} (ids : List Nat) (hc : LC P f ids.length lvs Hi out Ho k)
    (ho : all[i]? = some ⟨some d, .call { callee := .value fo, args := args, argTypes := ats }, ty, pos, aft, none⟩ := by rfl)
    (hf : lvOf (en E) fo = some (true, .fn (.func f) first cap) := by rfl)
    (hx : args.toList.map (lvOf (en E)) = es.map some := by rfl) (hes : first ++ es.map entLV ++ cap = LV.mapIs (sg ids n) lvs := by rfl) (hnd : ids.Nodup := by decide)
    (hout : out.mapI (sg ids n) = out' := by rfl) (hHi : (Hi.map fun p => (sg ids n p.1, p.2.mapI (sg ids n))) = Hi' := by rfl) (hHo : (Ho.map fun p => (sg ids n p.1, p.2.mapI (sg ids n))) = Ho' := by rfl)
    (hL : KeepL (hp L) Hi' := by repeat (first | exact trivial | refine ⟨rfl, ?_⟩))
    (h : Reg P r N D B all (i + 1) ops ((i, ⟨needOf (fo :: args.toList) ((true, .fn (.func f) first cap) :: es), some d, (true, out'), [], Hi', Ho', List.range' n k⟩) :: tr) (st ((d, (true, out')) :: E) (updL L Hi' Ho') (n + k)) K) :
    Reg P r N D B all i (⟨some d, .call { callee := .value fo, args := args, argTypes := ats }, ty, pos, aft, none⟩ :: ops) tr (st E L n) K := by
  have hl : (Oper.mk (some d) (.call { callee := .value fo, args := args, argTypes := ats }) ty pos aft none).op.operands.toList = fo :: args.toList := by simp [Op.operands, Go.Call.operands]
  have h2 := OpC.call (r := r) (n := n) (ids := ids) (k := k) (Ho := Ho) hc hnd (o := ⟨some d, .call { callee := .value fo, args := args, argTypes := ats }, ty, pos, aft, none⟩) rfl rfl (first := first) (cap := cap) (avs := es.map entLV) hes
  rw [hout, hHi, hHo] at h2
  refine Reg.gen (m := k) (es := (true, .fn (.func f) first cap) :: es) (rd := []) (Hi := Hi') (Ho := Ho') (out := out') ho gN (by rw [hl]; exact ⟨_, _, rfl, hf, Opnds.of_map hx⟩) (by simp) (fun o x hx => hL.get hx) h2 ?_
  rw [hl]
  exact h
end

end Go.Proofs.Ytmiamhegohlglaa
