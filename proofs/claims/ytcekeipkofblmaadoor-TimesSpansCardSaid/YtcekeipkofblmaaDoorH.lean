/- times: Print. -/
import Derived.Test.YtcekeipkofblmaaDoorF
set_option linter.unusedSimpArgs false
set_option linter.unusedVariables false
namespace Go.Proofs.YtcekeipkofblmaaDoor


theorem run_max3 (P : Program) (k : IntKind) (a b c : Int) (w : World) (tys : Array TypeId) (t : TypeId) : (Builtin.max_ tys t #[.int k a, .int k b, .int k c]).run P w = .ok (.int k (max (max a b) c)) w := by
  simp only [Builtin.max_, List.foldlM, Builtin.max2]
  by_cases h : b > a
  · by_cases h2 : c > b
    · simp [h, h2, show max (max a b) c = c by omega]
    · simp [h, h2, show max (max a b) c = b by omega]
  · by_cases h2 : c > a
    · simp [h, h2, show max (max a b) c = c by omega]
    · simp [h, h2, show max (max a b) c = a by omega]
section
variable {P : Program} {r : Option Nat} {N : Nat} {D : List Nat} {B : Base} {all : Array Oper} {K : List (Nat × Ct) → St → Prop}
variable {i : Nat} {ops : List Oper} {tr : List (Nat × Ct)} {E : List (Nat × Ent)} {L : List (Nat × LO)} {n : Nat} {g : Bool} {gn : List (Nat × Ent)}
variable {d ty : Nat} {pos : String} {aft : Array Edge} {gd : Option (Nat × Bool)}
theorem R.maxI3 {x y z : Operand} {gx gy gz : Bool} {k : IntKind} {a b c : Int} {tys : Array TypeId}
    (ho : all[i]? = some ⟨some d, .call { callee := .builtin .max, args := #[x, y, z], argTypes := tys }, ty, pos, aft, gd⟩ := by rfl) (hg : GuardOk (en E) all gd g gn := by first | exact gN | exact gS rfl rfl)
    (hx : lvOf (en E) x = some (gx, .v (.int k a)) := by rfl) (hy : lvOf (en E) y = some (gy, .v (.int k b)) := by rfl) (hz : lvOf (en E) z = some (gz, .v (.int k c)) := by rfl)
    (hgx : g = true → gx = true := by first | exact fun _ => rfl | exact id) (hgy : g = true → gy = true := by first | exact fun _ => rfl | exact id) (hgz : g = true → gz = true := by first | exact fun _ => rfl | exact id)
    (h : Reg P r N D B all (i + 1) ops ((i, Ct.p gn [x, y, z] [(gx, .v (.int k a)), (gy, .v (.int k b)), (gz, .v (.int k c))] (some d) (g, .v (.int k (Max.max (Max.max a b) c))) []) :: tr) (st ((d, (g, .v (.int k (Max.max (Max.max a b) c)))) :: E) L n) K) :
    Reg P r N D B all i (⟨some d, .call { callee := .builtin .max, args := #[x, y, z], argTypes := tys }, ty, pos, aft, gd⟩ :: ops) tr (st E L n) K :=
  Reg.three rfl (fun h => by
    rw [entLV_true h hgx, entLV_true h hgy, entLV_true h hgz]
    refine OpC.of_pure3 (x := x) (y := y) (z := z) rfl (by simp) fun md n0 cx H ρ w _ _ v1 v2 v3 => ?_
    refine ⟨.int k (Max.max (Max.max a b) c), ?_, V.mkval⟩
    simp [execOp, resolve, invoke, builtin, v1.val, v2.val, v3.val, run_max3]) ho hg hx hy hz (by simp) h
end

def twoT (n : Int) : List UInt8 := [UInt8.ofNat (48 + n / 10).toNat, UInt8.ofNat (48 + n % 10).toNat]
theorem twoT_C (n : Int) (h0 : 0 ≤ n) (h1 : n < 100) : bytesC (twoT n) = ([.val (.int .u8 (48 + n / 10)), .val (.int .u8 (48 + n % 10))] : List SV).map fun c => [c] := by
  have e1 : ((UInt8.ofNat (48 + n / 10).toNat).toNat : Int) = 48 + n / 10 := by rw [UInt8.toNat_ofNat']; omega
  have e2 : ((UInt8.ofNat (48 + n % 10).toNat).toNat : Int) = 48 + n % 10 := by rw [UInt8.toNat_ofNat']; omega
  simp [bytesC, twoT, e1, e2]
  omega
def printT (t : Int) : List UInt8 × Int := if t < 0 then ([], 7) else (Lib.itoa (t / 86400) ++ [100] ++ twoT (t / 3600 % 24) ++ [58] ++ twoT (t / 60 % 60) ++ [58] ++ twoT (t % 60), 0)
theorem tab10 {pr : Nat → Nat} {w : World} (h : Amb pr w) : Lib.TabIs Tryd.prog w "internal/strconv.uint64pow10" .u64 Lib.pow10Tab := by
  obtain ⟨_, T, fr, hb⟩ := h _ (List.mem_cons_self ..)
  unfold Lib.TabIs World.var?
  rw [show Tryd.prog.globalNamed "internal/strconv.uint64pow10" = some 0 from by kernel_rfl]
  dsimp only at hb
  simp only [Option.bind_some, hb]
theorem formatInt_P (n : Int) (hn : R64 n) : PC Tryd.prog 38 [.i n, .i 10] (.t (Lib.itoa n)) :=
  PC.of_val (Entr.of Tryd.func38 rfl (by kernel_rfl)) (by simp [LV.lts, LV.lt]) fun cx w vs hl ham hv => by
    obtain ⟨v1, v2⟩ : ∃ v1 v2, vs = [v1, v2] ∧ V cx w (.i n) v1 ∧ V cx w (.i 10) v2 := by
      simp only [Vs] at hv
      obtain ⟨v1, r1, rfl, h1, v2, r2, rfl, h2, rfl⟩ := hv
      exact ⟨_, _, rfl, h1, h2⟩
    obtain ⟨v2, rfl, h1, h2⟩ := v2
    rw [h1.val, h2.val]
    refine (Tryd.strconv_FormatInt_10 n hn.1 hn.2 w (tab10 ham)).mono ?_
    rintro e w' ⟨rfl, k, os, rfl⟩
    exact ⟨rfl, ⟨rfl, rfl, rfl, by rw [Go.Sort.size_grow]; exact Nat.le_add_right _ _, fun b hb => Go.Sort.heap_grow_old _ _ hb⟩⟩
theorem decDigits_le : ∀ (k u : Nat), u < 10 ^ k → (Lib.decDigits u).length ≤ k + 1
  | 0, u, h => by rw [Lib.decDigits, dif_pos (by omega)]; simp
  | k + 1, u, h => by
    rw [Lib.decDigits]
    split
    · simp
    · have := decDigits_le k (u / 10) (by rw [Nat.pow_succ] at h; omega)
      simp; omega
theorem itoa_le (n : Int) (h0 : 0 ≤ n) (h1 : n ≤ 9223372036854775807) : (Lib.itoa n).length ≤ 20 := by
  unfold Lib.itoa
  rw [if_neg (by omega)]
  exact decDigits_le 19 n.toNat (by omega)

theorem two_P (n : Int) (h0 : 0 ≤ n) (h1 : n < 100) : PC Tryd.prog 39 [.i n] (.t (twoT n)) := by
  refine ⟨LC.of_go Tryd.func39 (c := _) rfl (by kernel_rfl) (by rw [Tryd.ntmps39]; simp) rfl rfl (by simp [LO.lt, LV.lts, LV.lt]) (by simp) ?_⟩
  intro B hA hmd
  refine LGo.seq ?_
  refine LGo.region rfl ?_  -- region 0
  refine R.assign (h := ?_)
  refine Reg.nil ⟨fun h => (by cases h), ?_⟩
  refine LGo.seq ?_
  refine LGo.region rfl ?_  -- region 1
  refine R.move (h := ?_)
  refine R.quo (h := ?_)
  first | refine R.add (h := ?_) | refine R.addW (h := ?_)
  first | refine R.convI Tryd.runUnderlying2 Tryd.runUnderlying5 (h := ?_) | refine R.convW Tryd.runUnderlying2 Tryd.runUnderlying5 (h := ?_)
  refine R.move (h := ?_)
  refine R.rem (h := ?_)
  first | refine R.add (h := ?_) | refine R.addW (h := ?_)
  first | refine R.convI Tryd.runUnderlying2 Tryd.runUnderlying5 (h := ?_) | refine R.convW Tryd.runUnderlying2 Tryd.runUnderlying5 (h := ?_)
  refine R.buildSliceF AP66 (([.val (.int .u8 (48 + n / 10)), .val (.int .u8 (48 + n % 10))] : List SV).map fun c => [c]) (xs := [_, _]) (es := [_, _]) (hcs := CellsOfs.cons (CellsOf.one rfl) (CellsOfs.cons (CellsOf.one rfl) CellsOfs.nil)) (h := ?_)
  rw [← twoT_C n h0 h1]
  refine R.toString Tryd.underlying66 Tryd.underlying5 Tryd.underlying9 (h := ?_)
  refine R.assign (h := ?_)
  refine Reg.nil ⟨fun h => (by cases h), ?_⟩
  exact LGo.ret (ret_T Tryd.results39 hA hmd)

theorem none1_P (t : Int) : PC Tryd.prog 36 [.sv (.sl 1 (ic .i64 [t]))] (.b (decide (t < 0))) := by
  refine ⟨LC.of_go Tryd.func36 (c := _) rfl (by kernel_rfl) (by rw [Tryd.ntmps36]; simp) rfl rfl (by simp [LO.lt, LV.lts, LV.lt]) (by simp) ?_⟩
  intro B hA hmd
  refine LGo.seq ?_
  refine LGo.region rfl ?_  -- region 0
  refine R.assign (h := ?_)
  refine Reg.nil ⟨fun h => (by cases h), ?_⟩
  refine LGo.seq ?_
  refine LGo.region rfl ?_  -- region 1
  refine R.move (h := ?_)
  refine R.callP (es := [_]) (fun _ => min_P t [] (by simp)) (h := ?_)
  rw [show minGo t [] = t from rfl]
  refine R.bin (run_lss _ _ _ _ _ _) (h := ?_)
  refine R.assign (h := ?_)
  refine Reg.nil ⟨fun h => (by cases h), ?_⟩
  exact LGo.ret (ret_T Tryd.results36 hA hmd)

theorem print_P (t : Int) (ht : R64 t) : PC Tryd.prog 19 [.i t] (.tup [.t (printT t).1, .i (printT t).2]) := by
  refine ⟨LC.of_go Tryd.func19 (c := _) rfl (by kernel_rfl) (by rw [Tryd.ntmps19]; simp) rfl rfl (by simp [LO.lt, LV.lts, LV.lt]) (by simp) ?_⟩
  intro B hA hmd
  unfold R64 at ht
  obtain ⟨g, e0⟩ : ∃ g, printT t = g := ⟨_, rfl⟩
  have e1 := e0
  unfold printT at e1
  rw [e0]
  refine LGo.seq ?_
  refine LGo.region rfl ?_  -- region 0
  refine R.assign (h := ?_)
  refine R.assign (h := ?_)
  refine Reg.nil ⟨fun h => (by cases h), ?_⟩
  refine LGo.seq ?_
  refine LGo.seq ?_
  refine LGo.region rfl ?_  -- region 1
  refine R.move (h := ?_)
  refine R.buildSliceF AP34 (ic .i64 [t]) (xs := [_]) (es := [_]) (hcs := CellsOfs.cons (CellsOf.one rfl) CellsOfs.nil) (h := ?_)
  refine R.callP (es := [_]) (fun _ => none1_P t) (h := ?_)
  refine Reg.nil ⟨fun h => (by cases h), ?_⟩
  refine LGo.ifb (ht := fun hc => ?_) (hf := fun hc => ?_)
  · -- then 1
    rw [if_pos (by simpa using hc)] at e1; rw [← e1]
    refine LGo.seq ?_
    refine LGo.region rfl ?_  -- region 2
    refine R.assign (h := ?_)
    refine R.assign (h := ?_)
    refine Reg.nil ⟨fun h => (by cases h), ?_⟩
    exact LGo.ret (ret_TT Tryd.results19 hA hmd)
  · -- else 1
    have h0 : 0 ≤ t := by simpa using hc
    rw [if_neg (by omega)] at e1; rw [← e1]
    have hle := itoa_le (t / 86400) (by omega) (by omega)
    refine LGo.skip ?_
    refine LGo.seq ?_
    refine LGo.region rfl ?_  -- region 3
    refine R.move (h := ?_)
    refine R.quo (h := ?_)
    refine R.callP (es := [_, _]) (fun _ => formatInt_P (t / 86400) ⟨by omega, by omega⟩) (h := ?_)
    refine R.bin (run_addT _ _ _ (Lib.itoa (t / 86400)) ([100]) (by simp [twoT]; omega)) (h := ?_)
    refine R.move (h := ?_)
    refine R.quo (h := ?_)
    refine R.rem (h := ?_)
    refine R.callP (es := [_]) (fun _ => two_P (t / 3600 % 24) (by omega) (by omega)) (h := ?_)
    refine R.bin (run_addT _ _ _ (Lib.itoa (t / 86400) ++ [100]) (twoT (t / 3600 % 24)) (by simp [twoT]; omega)) (h := ?_)
    refine R.bin (run_addT _ _ _ (Lib.itoa (t / 86400) ++ [100] ++ twoT (t / 3600 % 24)) ([58]) (by simp [twoT]; omega)) (h := ?_)
    refine R.move (h := ?_)
    refine R.quo (h := ?_)
    refine R.rem (h := ?_)
    refine R.callP (es := [_]) (fun _ => two_P (t / 60 % 60) (by omega) (by omega)) (h := ?_)
    refine R.bin (run_addT _ _ _ (Lib.itoa (t / 86400) ++ [100] ++ twoT (t / 3600 % 24) ++ [58]) (twoT (t / 60 % 60)) (by simp [twoT]; omega)) (h := ?_)
    refine R.bin (run_addT _ _ _ (Lib.itoa (t / 86400) ++ [100] ++ twoT (t / 3600 % 24) ++ [58] ++ twoT (t / 60 % 60)) ([58]) (by simp [twoT]; omega)) (h := ?_)
    refine R.move (h := ?_)
    refine R.rem (h := ?_)
    refine R.callP (es := [_]) (fun _ => two_P (t % 60) (by omega) (by omega)) (h := ?_)
    refine R.bin (run_addT _ _ _ (Lib.itoa (t / 86400) ++ [100] ++ twoT (t / 3600 % 24) ++ [58] ++ twoT (t / 60 % 60) ++ [58]) (twoT (t % 60)) (by simp [twoT]; omega)) (h := ?_)
    refine R.assign (h := ?_)
    refine R.assign (h := ?_)
    refine Reg.nil ⟨fun h => (by cases h), ?_⟩
    exact LGo.ret (ret_TT Tryd.results19 hA hmd)

end Go.Proofs.YtcekeipkofblmaaDoor
