/- fields: the functions, and the reference's: checks, finding, one field. -/
import Derived.Test.YtcobkjognpjikaaGreatDoorT
set_option linter.unusedSimpArgs false
set_option linter.unusedVariables false
namespace Go.Proofs.YtcobkjognpjikaaGreatDoor



structure Rule where
  tag : Int
  kind : Int
  low : Int
  high : Int
  must : Bool
instance : Inhabited Rule := ⟨⟨0,0,0,0,false⟩⟩
def Rule.c (r : Rule) : List SV := [.val (.int .i64 r.tag), .val (.int .i64 r.kind), .val (.int .u64 r.low), .val (.int .u64 r.high), .val (.bool r.must)]
def within (r : Rule) (n : Int) : Bool := decide (r.low ≤ n) && decide (n ≤ r.high)

theorem within_P (ru : Rule) (x : Int) : PC Tryz.prog 89 [.agg (ru.c.map LV.sv), .u x] (.b (within ru x)) := by
  refine ⟨LC.of_go Tryz.func89 (c := _) rfl (by kernel_rfl) (by rw [Tryz.ntmps89]; simp) rfl rfl (by simp) (by simp) ?_⟩
  intro B hA hmd
  refine LGo.seq ?_
  refine LGo.region rfl ?_
  refine R.box (h := ?_)
  refine R.assign (h := ?_)
  refine Reg.nil ⟨fun h => (by cases h), ?_⟩
  refine LGo.seq ?_
  refine LGo.region rfl ?_
  refine R.move (h := ?_)
  first | refine R.field F88_2 (h := ?_) | refine R.fieldAt F88_2 (h := ?_)
  first | refine R.loadB O22 (h := ?_) | refine R.load1 O22 (h := ?_)
  refine R.bin (run_geq _ _ _ _ _ _) (h := ?_)
  refine R.move (h := ?_)
  refine R.move (h := ?_)
  first | refine R.field F88_3 (h := ?_) | refine R.fieldAt F88_3 (h := ?_)
  first | refine R.loadB O22 (h := ?_) | refine R.load1 O22 (h := ?_)
  refine R.bin (run_leq _ _ _ _ _ _) (h := ?_)
  refine R.and (h := ?_)
  refine R.assign (h := ?_)
  refine Reg.nil ⟨fun h => (by cases h), ?_⟩
  refine LGo.drop 0 (fun o h => (hA o).1 h) (by omega) [(4, (true, .b (within ru x)))] [] ⟨rfl, trivial⟩ trivial (by simp [LV.lt]) (by simp) (h := ?_)
  exact LGo.ret (res1 Tryz.results89 hA hmd (by rfl) noHo (by rfl) (.inr rfl))

def checkGo (last : Int) : List Rule → Int
  | [] => 0
  | r :: rs => if (decide (r.tag ≤ last) || decide (63 < r.tag) || decide (r.high < r.low)) = true then 2 else if r.kind = 1 then checkGo r.tag rs else if (!decide (r.kind = 2) || decide (400 < r.high)) = true then 2 else checkGo r.tag rs
def check (rs : List Rule) : Int := if 16 < rs.length then 3 else checkGo 0 rs

theorem check_P (xs : List Rule) : PC Tryz.prog 63 [.sv (.sl 5 (xs.map Rule.c))] (.i (check xs)) := by
  refine ⟨LC.of_go Tryz.func63 (c := _) rfl (by kernel_rfl) (by rw [Tryz.ntmps63]; simp) rfl rfl (by simp) (by simp) ?_⟩
  intro B hA hmd
  refine LGo.seq ?_
  refine LGo.region rfl ?_
  refine R.assign (h := ?_)
  refine Reg.nil ⟨fun h => (by cases h), ?_⟩
  refine LGo.seq ?_
  refine LGo.seq ?_
  refine LGo.region rfl ?_
  refine R.move (h := ?_)
  first | refine R.len S72 (h := ?_) | refine R.lenV (run_lenNil S72) (h := ?_)
  refine R.bin (run_gtr _ _ _ _ _ _) (h := ?_)
  refine Reg.nil ⟨fun h => (by cases h), ?_⟩
  rw [List.length_map]
  refine LGo.ifd (ht := fun hc => ?_) (hf := fun hc => ?_)
  · -- then
    refine LGo.seq ?_
    refine LGo.region rfl ?_
    refine R.assign (h := ?_)
    refine Reg.nil ⟨fun h => (by cases h), ?_⟩
    have e : check xs = 3 := by unfold check; rw [if_pos (by omega)]
    rw [e]
    exact LGo.ret (res1 Tryz.results63 hA hmd (by rfl) noHo (by rfl) (.inr rfl))
  · -- else
    refine LGo.skip ?_
    refine LGo.seq ?_
    refine LGo.region rfl ?_
    refine R.assign (h := ?_)
    refine Reg.nil ⟨fun h => (by cases h), ?_⟩
    refine LGo.seq ?_
    refine LGo.seq ?_
    refine LGo.region rfl ?_
    refine R.move (h := ?_)
    first | refine R.len S72 (h := ?_) | refine R.lenV (run_lenNil S72) (h := ?_)
    refine R.move (h := ?_)
    refine Reg.nil ⟨fun h => (by cases h), ?_⟩
    refine LGo.block ?_
    refine LGo.loop ?_
    have e : check xs = checkGo 0 xs := by unfold check; rw [if_neg (by omega)]
    rw [e]
    rw [List.length_map]
    refine LGo.keep [(3, (true, .i 0)), (9, (true, .sv (.sl 5 (xs.map Rule.c)))), (10, (true, .i xs.length)), (11, (true, .i (0 : Nat)))] [] ⟨rfl, rfl, rfl, rfl, trivial⟩ trivial ?_
    refine LGo.loopK (σ := Nat × Int) (fun x => x.1 ≤ xs.length ∧ checkGo 0 xs = checkGo x.2 (xs.drop x.1))
      (fun x => [(3, (true, .i x.2)), (9, (true, .sv (.sl 5 (xs.map Rule.c)))), (10, (true, .i xs.length)), (11, (true, .i x.1))]) (fun _ => []) (fun _ => 0) (fun x => xs.length - x.1) (0, 0) ⟨by simp, by simp⟩ ?_
    rintro ⟨k, last⟩ ⟨hk, hq⟩ ih
    simp only at hk hq ih ⊢
    refine LGo.seq ?_
    refine LGo.region rfl ?_
    refine R.bin (run_lss _ _ _ _ _ _) (h := ?_)
    refine Reg.nil ⟨fun h => (by cases h), ?_⟩
    refine LGo.seq ?_
    refine LGo.ifd (ht := fun hc => ?_) (hf := fun hc => ?_)
    · -- then
      have hlt : k < xs.length := by omega
      have hx : (xs.map Rule.c)[((k : Nat) : Int).toNat]? = some (xs[k].c) := by simp [hlt]
      have hd : xs.drop k = xs[k] :: xs.drop (k + 1) := List.drop_eq_getElem_cons hlt
      rw [hd] at hq
      generalize xs[k] = ru at hx hq
      clear hd
      refine LGo.skip ?_
      refine LGo.seq ?_
      refine LGo.block ?_
      refine LGo.seq ?_
      refine LGo.region rfl ?_
      refine R.index I72 (hj := fun _ => ⟨by omega, hx⟩) (h := ?_)
      first | refine R.loadA A88 (h := ?_) | refine R.loadN A88 (h := ?_)
      refine R.alloc Z88 (h := ?_)
      refine R.storeA A88 (h := ?_)  -- _ := store
      refine Reg.nil ⟨fun h => (by cases h), ?_⟩
      refine LGo.seq ?_
      refine LGo.block ?_
      refine LGo.seq ?_
      refine LGo.region rfl ?_
      first | refine R.field F88_0 (h := ?_) | refine R.fieldAt F88_0 (h := ?_)
      first | refine R.loadB O3 (h := ?_) | refine R.load1 O3 (h := ?_)
      refine R.move (h := ?_)
      refine R.bin (run_leq _ _ _ _ _ _) (h := ?_)
      refine R.move (h := ?_)
      first | refine R.field F88_0 (h := ?_) | refine R.fieldAt F88_0 (h := ?_)
      first | refine R.loadB O3 (h := ?_) | refine R.load1 O3 (h := ?_)
      refine R.bin (run_gtr _ _ _ _ _ _) (h := ?_)
      refine R.or (h := ?_)
      refine R.move (h := ?_)
      first | refine R.field F88_2 (h := ?_) | refine R.fieldAt F88_2 (h := ?_)
      first | refine R.loadB O22 (h := ?_) | refine R.load1 O22 (h := ?_)
      first | refine R.field F88_3 (h := ?_) | refine R.fieldAt F88_3 (h := ?_)
      first | refine R.loadB O22 (h := ?_) | refine R.load1 O22 (h := ?_)
      refine R.bin (run_gtr _ _ _ _ _ _) (h := ?_)
      refine R.or (h := ?_)
      refine R.assign (h := ?_)
      refine Reg.nil ⟨fun h => (by cases h), ?_⟩
      refine LGo.ifb (ht := fun hc1 => ?_) (hf := fun hc1 => ?_)
      · -- then
        refine LGo.seq ?_
        refine LGo.region rfl ?_
        refine R.assign (h := ?_)
        refine Reg.nil ⟨fun h => (by cases h), ?_⟩
        rw [hq, checkGo, if_pos hc1]
        refine LGo.drop 0 (fun o h => (hA o).1 h) (by omega) [(2, (true, .i 2))] [] ⟨rfl, trivial⟩ trivial (by simp [LV.lt]) (by simp) (h := ?_)
        exact LGo.ret (res1 Tryz.results63 hA hmd (by rfl) noHo (by rfl) (.inr rfl))
      · -- else
        rw [checkGo, if_neg (by rw [hc1]; simp)] at hq
        refine LGo.seq ?_
        refine LGo.region rfl ?_
        first | refine R.field F88_1 (h := ?_) | refine R.fieldAt F88_1 (h := ?_)
        first | refine R.loadB O3 (h := ?_) | refine R.load1 O3 (h := ?_)
        refine R.bin (run_eql _ _ _ _ _ _) (h := ?_)
        refine R.assign (h := ?_)
        refine Reg.nil ⟨fun h => (by cases h), ?_⟩
        refine LGo.ifd (ht := fun hc2 => ?_) (hf := fun hc2 => ?_)
        · -- then
          rw [if_pos hc2] at hq
          refine LGo.skip ?_
          refine LGo.inBlock ?_
          refine LGo.region rfl ?_
          first | refine R.field F88_0 (h := ?_) | refine R.fieldAt F88_0 (h := ?_)
          first | refine R.loadB O3 (h := ?_) | refine R.load1 O3 (h := ?_)
          refine R.assign (h := ?_)
          refine Reg.nil ⟨fun h => (by cases h), ?_⟩
          refine LGo.inBlock ?_
          refine LGo.region rfl ?_
          refine R.add (h := ?_)
          refine R.move (h := ?_)
          refine Reg.nil ⟨fun h => (by cases h), ?_⟩
          refine LGo.inLoop ?_
          exact LGo.next 0 (fun o h => (hA o).1 h) (by omega) (ih (k + 1, ru.tag) ⟨by omega, hq⟩ (by simp; omega)) ⟨rfl, rfl, rfl, rfl, trivial⟩ trivial
        · -- else
          rw [if_neg hc2] at hq
          refine LGo.seq ?_
          refine LGo.region rfl ?_
          first | refine R.field F88_1 (h := ?_) | refine R.fieldAt F88_1 (h := ?_)
          first | refine R.loadB O3 (h := ?_) | refine R.load1 O3 (h := ?_)
          refine R.bin (run_neq _ _ _ _ _ _) (h := ?_)
          refine R.move (h := ?_)
          first | refine R.field F88_3 (h := ?_) | refine R.fieldAt F88_3 (h := ?_)
          first | refine R.loadB O22 (h := ?_) | refine R.load1 O22 (h := ?_)
          refine R.bin (run_gtr _ _ _ _ _ _) (h := ?_)
          refine R.or (h := ?_)
          refine R.assign (h := ?_)
          refine Reg.nil ⟨fun h => (by cases h), ?_⟩
          refine LGo.ifb (ht := fun hc3 => ?_) (hf := fun hc3 => ?_)
          · -- then
            rw [if_pos hc3] at hq
            refine LGo.seq ?_
            refine LGo.region rfl ?_
            refine R.assign (h := ?_)
            refine Reg.nil ⟨fun h => (by cases h), ?_⟩
            rw [hq]
            refine LGo.drop 0 (fun o h => (hA o).1 h) (by omega) [(2, (true, .i 2))] [] ⟨rfl, trivial⟩ trivial (by simp [LV.lt]) (by simp) (h := ?_)
            exact LGo.ret (res1 Tryz.results63 hA hmd (by rfl) noHo (by rfl) (.inr rfl))
          · -- else
            rw [if_neg (by rw [hc3]; simp)] at hq
            refine LGo.skip ?_
            refine LGo.inBlock ?_
            refine LGo.region rfl ?_
            first | refine R.field F88_0 (h := ?_) | refine R.fieldAt F88_0 (h := ?_)
            first | refine R.loadB O3 (h := ?_) | refine R.load1 O3 (h := ?_)
            refine R.assign (h := ?_)
            refine Reg.nil ⟨fun h => (by cases h), ?_⟩
            refine LGo.inBlock ?_
            refine LGo.region rfl ?_
            refine R.add (h := ?_)
            refine R.move (h := ?_)
            refine Reg.nil ⟨fun h => (by cases h), ?_⟩
            refine LGo.inLoop ?_
            exact LGo.next 0 (fun o h => (hA o).1 h) (by omega) (ih (k + 1, ru.tag) ⟨by omega, hq⟩ (by simp; omega)) ⟨rfl, rfl, rfl, rfl, trivial⟩ trivial
    · -- else
      refine LGo.exit rfl ?_
      refine LGo.seq ?_
      refine LGo.region rfl ?_
      refine R.assign (h := ?_)
      refine Reg.nil ⟨fun h => (by cases h), ?_⟩
      have hd : xs.drop k = [] := List.drop_eq_nil_of_le (by omega)
      rw [hq, hd, checkGo]
      exact LGo.ret (res1 Tryz.results63 hA hmd (by rfl) noHo (by rfl) (.inr rfl))



def bits (n : Nat) : Nat := if n = 0 then 0 else Nat.log2 n + 1

theorem bits_shift (n k : Nat) (h : 2 ^ k ≤ n) : bits (n / 2 ^ k) + k = bits n := by
  have h0 : n ≠ 0 := by have := Nat.two_pow_pos k; omega
  have h1 : n / 2 ^ k ≠ 0 := by
    have := Nat.div_pos h (Nat.two_pow_pos k); omega
  unfold bits
  rw [if_neg h0, if_neg h1]
  have : Nat.log2 (n / 2 ^ k) = Nat.log2 n - k := by
    have hk : k ≤ Nat.log2 n := (Nat.le_log2 h0).2 h
    apply Nat.le_antisymm
    · rw [← Nat.lt_succ_iff, Nat.log2_lt h1, Nat.div_lt_iff_lt_mul (Nat.two_pow_pos k), ← Nat.pow_add]
      have := Nat.lt_log2_self (n := n)
      rw [show (Nat.log2 n - k).succ + k = Nat.log2 n + 1 from by omega]; exact this
    · rw [Nat.le_log2 h1, Nat.le_div_iff_mul_le (Nat.two_pow_pos k), ← Nat.pow_add, show Nat.log2 n - k + k = Nat.log2 n from by omega]
      exact (Nat.le_log2 h0).1 (Nat.le_refl _)
  rw [this]
  have hk : k ≤ Nat.log2 n := (Nat.le_log2 h0).2 h
  omega

theorem bitsI_shift (x : Int) (k : Nat) (h0 : 0 ≤ x) (h : (2 : Int) ^ k ≤ x) : (bits (x / 2 ^ k).toNat : Int) + k = bits x.toNat := by
  have h1 : ((x / 2 ^ k).toNat : Nat) = x.toNat / 2 ^ k := by
    obtain ⟨m, rfl⟩ := Int.eq_ofNat_of_zero_le h0
    norm_cast
  rw [h1]
  have h2 : 2 ^ k ≤ x.toNat := by
    have : ((2 ^ k : Nat) : Int) ≤ x := by push_cast; exact h
    omega
  have := bits_shift x.toNat k h2
  omega

theorem bits_le (n k : Nat) (h : n < 2 ^ k) : bits n ≤ k := by
  unfold bits
  split
  · omega
  · rename_i h0
    have := (Nat.log2_lt h0).2 h
    omega

def lenTab : List UInt8 := ((List.range 256).map fun n => UInt8.ofNat (bits n))

theorem lenTab_get (n : Nat) (h : n < 256) : lenTab[n]? = some (UInt8.ofNat (bits n)) := by
  simp [lenTab, h]

theorem len64_P (x : Int) (h0 : 0 ≤ x) (h1 : x < 18446744073709551616) : PC Tryz.prog 97 [.u x] (.i (bits x.toNat)) := by
  refine ⟨LC.of_go Tryz.func97 (c := _) rfl (by kernel_rfl) (by rw [Tryz.ntmps97]; simp) rfl rfl (by simp) (by simp) ?_⟩
  intro B hA hmd
  refine LGo.seq ?_
  refine LGo.region rfl ?_
  refine R.assign (h := ?_)
  refine Reg.nil ⟨fun h => (by cases h), ?_⟩
  refine LGo.seq ?_
  refine LGo.split (α := Int × Int) (fun a => st [(0, (true, .u a.1)), (2, (true, .i a.2))] [] 0) (fun a => 0 ≤ a.1 ∧ a.1 < 4294967296 ∧ 0 ≤ a.2 ∧ a.2 ≤ 32 ∧ a.2 + bits a.1.toNat = bits x.toNat) ?_ (fun J => ?_)
  · rintro ⟨y, acc⟩ ⟨k0, k1, k2, k3, k4⟩
    simp only at k0 k1 k2 k3 k4 ⊢
    refine LGo.seq ?_
    refine LGo.split (α := Int × Int) (fun a => st [(0, (true, .u a.1)), (2, (true, .i a.2))] [] 0) (fun a => 0 ≤ a.1 ∧ a.1 < 65536 ∧ 0 ≤ a.2 ∧ a.2 ≤ 48 ∧ a.2 + bits a.1.toNat = bits x.toNat) ?_ (fun J => ?_)
    · rintro ⟨z, acc⟩ ⟨k0, k1, k2, k3, k4⟩
      simp only at k0 k1 k2 k3 k4 ⊢
      refine LGo.seq ?_
      refine LGo.split (α := Int × Int) (fun a => st [(0, (true, .u a.1)), (2, (true, .i a.2))] [] 0) (fun a => 0 ≤ a.1 ∧ a.1 < 256 ∧ 0 ≤ a.2 ∧ a.2 ≤ 56 ∧ a.2 + bits a.1.toNat = bits x.toNat) ?_ (fun J => ?_)
      · rintro ⟨u, acc⟩ ⟨k0, k1, k2, k3, k4⟩
        simp only at k0 k1 k2 k3 k4 ⊢
        have hb := bits_le u.toNat 8 (by omega)
        have hun : u.toNat < 256 := by omega
        have hut : ((UInt8.ofNat (bits u.toNat)).toNat : Int) = bits u.toNat := by
          simp only [UInt8.toNat_ofNat']; omega
        refine LGo.seq ?_
        refine LGo.region rfl ?_
        refine R.move (h := ?_)
        refine R.move (h := ?_)
        refine R.convI Tryz.runUnderlying22 Tryz.runUnderlying5 (h := ?_)
        refine R.indexS Tryz.runUnderlying9 (c := UInt8.ofNat (bits u.toNat)) (hj := ⟨by omega, (congrArg (fun l : List UInt8 => l[u.toNat]?) (show _ = lenTab by kernel_rfl)).trans (lenTab_get u.toNat hun)⟩) (h := ?_)
        rw [hut]
        refine R.convI Tryz.runUnderlying5 Tryz.runUnderlying3 (h := ?_)
        refine R.add (h := ?_)
        refine R.assign (h := ?_)
        refine Reg.nil ⟨fun h => (by cases h), ?_⟩
        rw [k4]
        exact LGo.ret (res1 Tryz.results97 hA hmd (by rfl) noHo (by rfl) (.inr rfl))
      · refine LGo.seq ?_
        refine LGo.region rfl ?_
        refine R.move (h := ?_)
        refine R.bin (run_geq _ _ _ _ _ _) (h := ?_)
        refine Reg.nil ⟨fun h => (by cases h), ?_⟩
        refine LGo.ifd (ht := fun hc => ?_) (hf := fun hc => ?_)
        · have hs := bitsI_shift z 8 k0 (by omega)
          refine LGo.seq ?_
          refine LGo.region rfl ?_
          refine R.move (h := ?_)
          refine R.shr (h := ?_)
          refine R.assign (h := ?_)
          refine Reg.nil ⟨fun h => (by cases h), ?_⟩
          refine LGo.region rfl ?_
          refine R.move (h := ?_)
          refine R.add (h := ?_)
          refine R.assign (h := ?_)
          refine Reg.nil ⟨fun h => (by cases h), ?_⟩
          exact LGo.keep [(0, (true, .u (z / 2 ^ 8))), (2, (true, .i (acc + 8)))] [] ⟨rfl, rfl, trivial⟩ trivial (J (z / 2 ^ 8, acc + 8) (by refine ⟨?_, ?_, ?_, ?_, ?_⟩ <;> dsimp only <;> omega))
        · refine LGo.skip ?_
          exact LGo.keep [(0, (true, .u (z))), (2, (true, .i (acc)))] [] ⟨rfl, rfl, trivial⟩ trivial (J (z, acc) (by refine ⟨?_, ?_, ?_, ?_, ?_⟩ <;> dsimp only <;> omega))
    · refine LGo.seq ?_
      refine LGo.region rfl ?_
      refine R.move (h := ?_)
      refine R.bin (run_geq _ _ _ _ _ _) (h := ?_)
      refine Reg.nil ⟨fun h => (by cases h), ?_⟩
      refine LGo.ifd (ht := fun hc => ?_) (hf := fun hc => ?_)
      · have hs := bitsI_shift y 16 k0 (by omega)
        refine LGo.seq ?_
        refine LGo.region rfl ?_
        refine R.move (h := ?_)
        refine R.shr (h := ?_)
        refine R.assign (h := ?_)
        refine Reg.nil ⟨fun h => (by cases h), ?_⟩
        refine LGo.region rfl ?_
        refine R.move (h := ?_)
        refine R.add (h := ?_)
        refine R.assign (h := ?_)
        refine Reg.nil ⟨fun h => (by cases h), ?_⟩
        exact LGo.keep [(0, (true, .u (y / 2 ^ 16))), (2, (true, .i (acc + 16)))] [] ⟨rfl, rfl, trivial⟩ trivial (J (y / 2 ^ 16, acc + 16) (by refine ⟨?_, ?_, ?_, ?_, ?_⟩ <;> dsimp only <;> omega))
      · refine LGo.skip ?_
        exact LGo.keep [(0, (true, .u (y))), (2, (true, .i (acc)))] [] ⟨rfl, rfl, trivial⟩ trivial (J (y, acc) (by refine ⟨?_, ?_, ?_, ?_, ?_⟩ <;> dsimp only <;> omega))
  · refine LGo.seq ?_
    refine LGo.region rfl ?_
    refine R.move (h := ?_)
    refine R.bin (run_geq _ _ _ _ _ _) (h := ?_)
    refine Reg.nil ⟨fun h => (by cases h), ?_⟩
    refine LGo.ifd (ht := fun hc => ?_) (hf := fun hc => ?_)
    · have hs := bitsI_shift x 32 h0 (by omega)
      refine LGo.seq ?_
      refine LGo.region rfl ?_
      refine R.move (h := ?_)
      refine R.shr (h := ?_)
      refine R.assign (h := ?_)
      refine Reg.nil ⟨fun h => (by cases h), ?_⟩
      refine LGo.region rfl ?_
      refine R.assign (h := ?_)
      refine Reg.nil ⟨fun h => (by cases h), ?_⟩
      exact LGo.keep [(0, (true, .u (x / 2 ^ 32))), (2, (true, .i (32)))] [] ⟨rfl, rfl, trivial⟩ trivial (J (x / 2 ^ 32, 32) (by refine ⟨?_, ?_, ?_, ?_, ?_⟩ <;> dsimp only <;> omega))
    · refine LGo.skip ?_
      exact LGo.keep [(0, (true, .u (x))), (2, (true, .i (0)))] [] ⟨rfl, rfl, trivial⟩ trivial (J (x, 0) (by refine ⟨?_, ?_, ?_, ?_, ?_⟩ <;> dsimp only <;> omega))




/-- the lowest k bytes of x, from the highest on -/
def low (x : Int) : Nat → List Int
  | 0 => []
  | k + 1 => x / 2 ^ (8 * k) % 256 :: low x k

def digs (x : Int) : List Int := low x ((bits x.toNat + 7) / 8)

abbrev rounds (l : List Int) : List (List LV) := l.map fun d => [.y d]

/-- the caller's objects hold the number in a box -/
def HoldsNum (m c : Nat) (x : Int) (L : List (Nat × LO)) : Prop := L.map (·.1) = List.range m ∧ (∀ p ∈ L, p.2.lt m = true) ∧ ∃ TB, hp L c = some (.box TB [.u x])

theorem YRun.head {P : Program} {y : Nat} {C : List (Nat × LO) → Prop} {xs : List (List LV)} {L L' : List (Nat × LO)} (h : YRun P y C xs L L') : C L := by
  cases h <;> assumption

theorem pow_split (k : Nat) (hk : k ≤ 7) : min (Int.toNat (8 * (k : Int))) IntKind.u64.bits = 8 * k := by
  simp only [IntKind.bits]; omega

theorem wrap_u8 (a : Int) : IntKind.u8.wrap a = a % 256 := by
  simp [IntKind.wrap, IntKind.bits, IntKind.signed]

theorem digits1 (x : Int) (h0 : 0 ≤ x) (h1 : x < 18446744073709551616) {m y c : Nat} {L L' : List (Nat × LO)} (hy : y < m) (hc : c < m) (hL : HoldsNum m c x L) (hr : YRun Tryz.prog y (HoldsNum m c x) (rounds (digs x)) L L') :
    LC Tryz.prog 114 m [.yld y, .ptr c 0] L (.tup []) L' 0 := by
  have hL' : ∀ {xs : List (List LV)} {L L' : List (Nat × LO)}, YRun Tryz.prog y (HoldsNum m c x) xs L L' → HoldsNum m c x L' := by
    intro xs L L' h
    induction h with
    | nil h => exact h
    | stop _ _ h => exact h
    | go _ _ _ ih => exact ih
  refine LC.of_go Tryz.func114 (c := _) rfl (by kernel_rfl) (by rw [Tryz.ntmps114]; simp) (by simp [LV.lts, LV.lt, hy, hc]) hL.1 hL.2.1 (fun p hp' => .inl (by rw [hL.1, ← (hL' hr).1]; exact List.mem_map.2 ⟨p, hp', rfl⟩)) ?_
  intro B hA hmd
  obtain ⟨hL1, hL2, TB, hLb⟩ := hL
  have hb := bits_le x.toNat 64 (by omega)
  refine LGo.seq ?_
  refine LGo.region rfl ?_
  refine R.loadB O22 (hb := hLb) (h := ?_)
  refine R.callP (es := [_]) (fun _ => len64_P x h0 h1) (h := ?_)
  refine R.add (h := ?_)
  refine R.quo (h := ?_)
  refine R.sub (h := ?_)
  refine R.assign (h := ?_)
  refine Reg.nil ⟨fun h => (by cases h), ?_⟩
  refine LGo.block ?_
  refine LGo.loop ?_
  refine LGo.keep [(0, (true, .yld y)), (1, (true, .ptr c 0)), (3, (true, .i ((((bits x.toNat : Nat) : Int) + 7) / 8 - 1)))] L ⟨rfl, rfl, rfl, trivial⟩ (KeepL.of fun p hp' => lookup_of_nodup (by rw [hL1]; exact List.nodup_range) hp') ?_
  have hdg : ∃ k : Nat, k ≤ 8 ∧ ((bits x.toNat : Nat) + 7) / 8 = k ∧ ((((bits x.toNat : Nat) : Int) + 7) / 8 - 1 = (k : Int) - 1) := ⟨(bits x.toNat + 7) / 8, by omega, rfl, by omega⟩
  obtain ⟨k0, hk8, hk, hk'⟩ := hdg
  rw [hk']
  have hr' : YRun Tryz.prog y (HoldsNum m c x) (rounds (low x k0)) L L' := by rw [← hk]; exact hr
  refine LGo.loopK (σ := Nat × List (Nat × LO)) (fun s => s.1 ≤ 8 ∧ HoldsNum m c x s.2 ∧ YRun Tryz.prog y (HoldsNum m c x) (rounds (low x s.1)) s.2 L')
    (fun s => [(0, (true, .yld y)), (1, (true, .ptr c 0)), (3, (true, .i ((s.1 : Int) - 1)))]) (fun s => s.2) (fun _ => m) (fun s => s.1) (k0, L) ⟨hk8, ⟨hL1, hL2, TB, hLb⟩, hr'⟩ ?_
  rintro ⟨k, Lc⟩ ⟨q1, q2, q3⟩ ih
  dsimp only at q1 q2 q3 ih ⊢
  obtain ⟨q4, q5, TB', q6⟩ := q2
  refine LGo.seq ?_
  refine LGo.seq ?_
  refine LGo.region rfl ?_
  refine R.move (h := ?_)
  refine R.bin (run_geq _ _ _ _ _ _) (h := ?_)
  refine Reg.nil ⟨fun h => (by cases h), ?_⟩
  refine LGo.ifd (ht := fun hc => ?_) (hf := fun hc => ?_)
  · -- then
    cases k with
    | zero => exact absurd hc (by simp)
    | succ k =>
    have hkk : ((k + 1 : Nat) : Int) - 1 = k := by omega
    rw [hkk] at hc
    simp only [hkk]
    refine LGo.skip ?_
    refine LGo.seq ?_
    refine LGo.block ?_
    refine LGo.seq ?_
    refine LGo.region rfl ?_
    refine R.move (h := ?_)
    refine R.loadB O22 (hb := q6) (h := ?_)
    refine R.move (h := ?_)
    refine R.mul (h := ?_)
    refine R.shr (h := ?_)
    refine R.convW Tryz.runUnderlying22 Tryz.runUnderlying5 (h := ?_)
    rw [pow_split k (by omega), wrap_u8]
    have hks : 0 < k + 1 := by omega
    simp only [low, rounds, List.map_cons] at q3
    have hC : ∀ {L1 : List (Nat × LO)}, HoldsNum m c x L1 → KeepL (hp (L1 ++ Lc)) L1 := fun h => KeepL.app (by rw [h.1]; exact List.nodup_range)
    cases q3 with
    | stop _ hyl hc1 =>
      refine R.callYld (es := [_]) hyl (hL := fun _ _ h => h) (h := ?_)
      refine R.not (h := ?_)
      refine Reg.nil ⟨fun h => (by cases h), ?_⟩
      refine LGo.ifb (ht := fun _ => ?_) (hf := fun hc => by cases hc)
      refine LGo.keep [] _ trivial (hC hc1) ?_
      exact LGo.ret (res0 Tryz.results114 hA hmd (by rfl) (fun _ _ h => h) (.inr rfl))
    | @go _ _ _ L1 _ _ hyl hrest =>
      have hc1 : HoldsNum m c x L1 := hrest.head
      refine R.callYld (es := [_]) hyl (hL := fun _ _ h => h) (h := ?_)
      refine R.not (h := ?_)
      refine Reg.nil ⟨fun h => (by cases h), ?_⟩
      refine LGo.ifb (ht := fun hc => by cases hc) (hf := fun _ => ?_)
      refine LGo.skip ?_
      refine LGo.inBlock ?_
      refine LGo.region rfl ?_
      refine R.move (h := ?_)
      refine R.sub (h := ?_)
      refine R.assign (h := ?_)
      refine Reg.nil ⟨fun h => (by cases h), ?_⟩
      refine LGo.inLoop ?_
      refine LGo.keep [(0, (true, .yld y)), (1, (true, .ptr c 0)), (3, (true, .i ((k : Int) - 1)))] L1 ⟨rfl, rfl, rfl, trivial⟩ (hC hc1) ?_
      exact ih (k, L1) ⟨by omega, hc1, hrest⟩ (by simp)
  · -- else
    have hk0 : k = 0 := by omega
    subst hk0
    simp only [low, rounds, List.map_nil] at q3
    cases q3 with
    | nil h =>
      refine LGo.exit rfl ?_
      exact LGo.done (res0 Tryz.results114 hA hmd (by rfl) (fun _ _ h => h) (.inl rfl))

/-- the numbers that digits hands out, as a function value -/
theorem digits_L (x : Int) : LC Tryz.prog 90 0 [.u x] [] (.fn (.func 114) [] [.ptr 0 0]) [(0, .box 22 [.u x])] 1 := by
  refine LC.of_go Tryz.func90 (c := _) rfl (by kernel_rfl) (by rw [Tryz.ntmps90]; simp) rfl rfl (by simp) (by simp) ?_
  intro B hA hmd
  refine LGo.seq ?_
  refine LGo.region rfl ?_
  refine R.box (h := ?_)
  refine R.assign (h := ?_)
  refine Reg.nil ⟨fun h => (by cases h), ?_⟩
  refine LGo.seq ?_
  refine LGo.region rfl ?_
  refine R.makeFunc (es := []) (fs := [_]) (h := ?_)
  refine R.assign (h := ?_)
  refine Reg.nil ⟨fun h => (by cases h), ?_⟩
  exact LGo.ret (res1 Tryz.results90 hA hmd (by rfl) (fun _ _ h => h) (by rfl) (.inr rfl))




structure Fld where
  tag : Int
  num : Int
  txt : List UInt8
instance : Inhabited Fld := ⟨⟨0, 0, []⟩⟩
def Fld.c (x : Fld) : List SV := [.val (.int .i64 x.tag), .val (.int .u64 x.num), .val (.string ⟨x.txt.toArray⟩)]

/-- the place of the first element that p takes, counted from k; -1: none -/
def idx {α : Type} (p : α → Bool) : Nat → List α → Int
  | _, [] => -1
  | k, x :: xs => if p x = true then (k : Int) else idx p (k + 1) xs

theorem idx_spec {α : Type} (p : α → Bool) : ∀ (xs : List α) (k : Nat), (idx p k xs = -1 ∧ xs.find? p = none) ∨ ∃ (j : Nat) (hj : j < xs.length), idx p k xs = (k + j : Int) ∧ xs.find? p = some xs[j]
  | [], k => .inl ⟨rfl, rfl⟩
  | x :: xs, k => by
    by_cases h : p x = true
    · exact .inr ⟨0, by simp, by simp [idx, h], by simp [h]⟩
    · rcases idx_spec p xs (k + 1) with ⟨h1, h2⟩ | ⟨j, hj, h1, h2⟩
      · exact .inl ⟨by simp [idx, h, h1], by simp [h, h2]⟩
      · refine .inr ⟨j + 1, by simpa using hj, ?_, by simp [h, h2]⟩
        simp only [idx, if_neg h, h1]; push_cast; omega
theorem upHi {x : LO} {L : List (Nat × LO)} (h : hp L 0 = some x) : ∀ (o : Nat) (y : LO), hp [(0, x)] o = some y → hp L o = some y := by
  intro o y hy
  simp only [hp, List.lookup_cons, List.lookup_nil] at hy
  cases ho : (o == 0) with
  | true => rw [ho] at hy; cases hy; have : o = 0 := by simpa using ho
            subst this; exact h
  | false => rw [ho] at hy; cases hy

def fldAt (tag : Int) (xs : List Fld) : Fld := (xs.find? (fun x => decide (Fld.tag x = tag))).getD default
def fldHas (tag : Int) (xs : List Fld) : Bool := (xs.find? (fun x => decide (Fld.tag x = tag))).isSome
def ruleAt (tag : Int) (xs : List Rule) : Rule := (xs.find? (fun x => decide (Rule.tag x = tag))).getD default
def ruleHas (tag : Int) (xs : List Rule) : Bool := (xs.find? (fun x => decide (Rule.tag x = tag))).isSome


theorem fld_cl (x : Fld) (tag : Int) : LC Tryz.prog 92 1 [.agg (x.c.map LV.sv), .ptr 0 0] [(0, .box 3 [.i tag])] (.b (decide (x.tag = tag))) [(0, .box 3 [.i tag])] 0 := by
  refine LC.of_go Tryz.func92 (c := _) rfl (by kernel_rfl) (by rw [Tryz.ntmps92]; simp) rfl rfl (by simp [LO.lt, LV.lts, LV.lt]) (by simp) ?_
  intro B hA hmd
  refine LGo.seq ?_
  refine LGo.region rfl ?_
  refine R.box (h := ?_)
  refine R.assign (h := ?_)
  refine Reg.nil ⟨fun h => (by cases h), ?_⟩
  refine LGo.seq ?_
  refine LGo.region rfl ?_
  refine R.field F55_0 (h := ?_)
  refine R.loadB O3 (h := ?_)
  refine R.loadB O3 (h := ?_)
  refine R.bin (run_eql _ _ _ _ _ _) (h := ?_)
  refine R.assign (h := ?_)
  refine Reg.nil ⟨fun h => (by cases h), ?_⟩
  refine LGo.drop 1 (fun o h => (hA o).1 h) (by omega) [(3, (true, .b (decide (x.tag = tag))))] [(0, .box 3 [.i tag])] ⟨rfl, trivial⟩ ⟨rfl, trivial⟩ (by simp [LV.lt]) (by simp [LO.lt, LV.lts, LV.lt]) (h := ?_)
  exact LGo.ret (res1 Tryz.results92 hA hmd (by rfl) (fun _ _ h => h) (by rfl) (.inr rfl))

theorem fld_idx (xs : List Fld) (tag : Int) (hxs : xs.length ≤ 100) : LC Tryz.prog 115 1 [.sv (.sl 3 (xs.map Fld.c)), .fn (.func 92) [] [.ptr 0 0]] [(0, .box 3 [.i tag])] (.i (idx (fun x => decide (Fld.tag x = tag)) 0 xs)) [(0, .box 3 [.i tag])] 0 := by
  refine LC.of_go Tryz.func115 (c := _) rfl (by kernel_rfl) (by rw [Tryz.ntmps115]; simp) rfl rfl (by simp [LO.lt, LV.lts, LV.lt]) (by simp) ?_
  intro B hA hmd
  refine LGo.seq ?_
  refine LGo.region rfl ?_
  refine R.assign (h := ?_)
  refine Reg.nil ⟨fun h => (by cases h), ?_⟩
  refine LGo.seq ?_
  refine LGo.seq ?_
  refine LGo.region rfl ?_
  refine R.move (h := ?_)
  refine R.len S61 (h := ?_)
  refine R.move (h := ?_)
  refine Reg.nil ⟨fun h => (by cases h), ?_⟩
  rw [List.length_map]
  refine LGo.block ?_
  refine LGo.loop ?_
  refine LGo.keep [(0, (true, .sv (.sl 3 (xs.map Fld.c)))), (1, (true, .fn (.func 92) [] [.ptr 0 0])), (7, (true, .i xs.length)), (8, (true, .i (0 : Nat)))] [(0, .box 3 [.i tag])] ⟨rfl, rfl, rfl, rfl, trivial⟩ ⟨rfl, trivial⟩ ?_
  refine LGo.loopK (σ := Nat) (fun k => k ≤ xs.length ∧ idx (fun x => decide (Fld.tag x = tag)) 0 xs = idx (fun x => decide (Fld.tag x = tag)) k (xs.drop k))
    (fun k => [(0, (true, .sv (.sl 3 (xs.map Fld.c)))), (1, (true, .fn (.func 92) [] [.ptr 0 0])), (7, (true, .i xs.length)), (8, (true, .i k))]) (fun _ => [(0, .box 3 [.i tag])]) (fun _ => 1) (fun k => xs.length - k) 0 ⟨by simp, by simp⟩ ?_
  rintro k ⟨hk, hq⟩ ih
  refine LGo.seq ?_
  refine LGo.region rfl ?_
  refine R.bin (run_lss _ _ _ _ _ _) (h := ?_)
  refine Reg.nil ⟨fun h => (by cases h), ?_⟩
  refine LGo.seq ?_
  refine LGo.ifd (ht := fun hc => ?_) (hf := fun hc => ?_)
  · -- then
    have hlt : k < xs.length := by omega
    have hx : (xs.map Fld.c)[((k : Nat) : Int).toNat]? = some (xs[k].c) := by simp [hlt]
    have hd : xs.drop k = xs[k] :: xs.drop (k + 1) := List.drop_eq_getElem_cons hlt
    rw [hd] at hq
    generalize xs[k] = x at hx hq
    clear hd
    refine LGo.skip ?_
    refine LGo.seq ?_
    refine LGo.block ?_
    refine LGo.seq ?_
    refine LGo.region rfl ?_
    refine R.move (h := ?_)
    refine R.assign (h := ?_)
    refine Reg.nil ⟨fun h => (by cases h), ?_⟩
    refine LGo.seq ?_
    refine LGo.region rfl ?_
    refine R.move (h := ?_)
    refine R.move (h := ?_)
    refine R.move (h := ?_)
    refine R.index I61 (hj := fun _ => ⟨by omega, hx⟩) (h := ?_)
    refine R.loadN A55 (h := ?_)
    refine R.callRd (m := 1) (avs := [_]) (out := .b (decide (x.tag = tag))) (es := [_]) (first := []) (cap := [.ptr 0 0]) (fld_cl x tag) (hL := fun _ _ h => h) (h := ?_)
    refine Reg.nil ⟨fun h => (by cases h), ?_⟩
    refine LGo.ifd (ht := fun hc1 => ?_) (hf := fun hc1 => ?_)
    · -- then
      refine LGo.seq ?_
      refine LGo.region rfl ?_
      refine R.move (h := ?_)
      refine R.assign (h := ?_)
      refine Reg.nil ⟨fun h => (by cases h), ?_⟩
      have e : idx (fun x => decide (Fld.tag x = tag)) k (x :: xs.drop (k + 1)) = k := by simp [idx, hc1]
      rw [hq, e]
      exact LGo.ret (res1 Tryz.results115 hA hmd (by rfl) (fun _ _ h => h) (by rfl) (.inr rfl))
    · -- else
      have e : idx (fun x => decide (Fld.tag x = tag)) k (x :: xs.drop (k + 1)) = idx (fun x => decide (Fld.tag x = tag)) (k + 1) (xs.drop (k + 1)) := by simp [idx, hc1]
      rw [e] at hq
      refine LGo.skip ?_
      refine LGo.inBlock ?_
      refine LGo.region rfl ?_
      refine R.add (h := ?_)
      refine R.move (h := ?_)
      refine Reg.nil ⟨fun h => (by cases h), ?_⟩
      refine LGo.inLoop ?_
      exact LGo.next 1 (fun o h => (hA o).1 h) (by omega) (ih (k + 1) ⟨by omega, hq⟩ (by omega)) ⟨rfl, rfl, rfl, rfl, trivial⟩ ⟨rfl, trivial⟩
  · -- else
    have hk' : k = xs.length := by omega
    subst hk'
    simp only [List.drop_length, idx] at hq
    rw [hq]
    refine LGo.exit rfl ?_
    refine LGo.seq ?_
    refine LGo.region rfl ?_
    refine R.assign (h := ?_)
    refine Reg.nil ⟨fun h => (by cases h), ?_⟩
    exact LGo.ret (res1 Tryz.results115 hA hmd (by rfl) (fun _ _ h => h) (by rfl) (.inr rfl))

theorem fld_find (xs : List Fld) (tag : Int) (hxs : xs.length ≤ 100) : LC Tryz.prog 91 1 [.sv (.sl 3 (xs.map Fld.c)), .fn (.func 92) [] [.ptr 0 0]] [(0, .box 3 [.i tag])] (.tup [.agg ((fldAt tag xs).c.map LV.sv), .b (fldHas tag xs)]) [(0, .box 3 [.i tag])] 0 := by
  refine LC.of_go Tryz.func91 (c := _) rfl (by kernel_rfl) (by rw [Tryz.ntmps91]; simp) rfl rfl (by simp [LO.lt, LV.lts, LV.lt]) (by simp) ?_
  intro B hA hmd
  refine LGo.seq ?_
  refine LGo.region rfl ?_
  refine R.alloc Z55 (h := ?_)
  refine R.assign (h := ?_)
  refine Reg.nil ⟨fun h => (by cases h), ?_⟩
  refine LGo.seq ?_
  refine LGo.region rfl ?_
  refine R.move (h := ?_)
  refine R.move (h := ?_)
  refine R.callRd (m := 1) (avs := [_, _]) (out := .i (idx (fun x => decide (Fld.tag x = tag)) 0 xs)) (es := [_, _]) (first := []) (cap := []) (fld_idx xs tag hxs) (hL := upHi (by rfl)) (h := ?_)
  refine R.assign (h := ?_)
  refine Reg.nil ⟨fun h => (by cases h), ?_⟩
  refine LGo.seq ?_
  refine LGo.seq ?_
  refine LGo.region rfl ?_
  refine R.move (h := ?_)
  refine R.bin (run_lss _ _ _ _ _ _) (h := ?_)
  refine Reg.nil ⟨fun h => (by cases h), ?_⟩
  have hsp := idx_spec (fun x => decide (Fld.tag x = tag)) xs 0
  refine LGo.ifd (ht := fun hc => ?_) (hf := fun hc => ?_)
  · -- then
    have e : fldAt tag xs = default ∧ fldHas tag xs = false := by
      rcases hsp with ⟨h1, h2⟩ | ⟨j, hj, h1, h2⟩
      · simp [fldAt, fldHas, h2]
      · omega
    rw [e.1, e.2]
    refine LGo.seq ?_
    refine LGo.region rfl ?_
    refine R.alloc Z55 (h := ?_)
    refine Reg.nil ⟨fun h => (by cases h), ?_⟩
    refine LGo.seq ?_
    refine LGo.region rfl ?_
    refine R.loadA A55 (h := ?_)
    refine R.storeA A55 (h := ?_)  -- _ := store
    refine R.assign (h := ?_)
    refine Reg.nil ⟨fun h => (by cases h), ?_⟩
    exact LGo.ret (resD1 Tryz.results91 A55 hA hmd (by omega) (upHi (by rfl)) (by rfl) (by rfl) (by rfl) (by rfl) (.inr rfl))
  · -- else
    rcases hsp with ⟨h1, h2⟩ | ⟨j, hj, h1, h2⟩
    · omega
    have hx : (xs.map Fld.c)[(idx (fun x => decide (Fld.tag x = tag)) 0 xs).toNat]? = some (xs[j].c) := by rw [h1]; simp [hj]
    have e : fldAt tag xs = xs[j] ∧ fldHas tag xs = true := by simp [fldAt, fldHas, h2]
    rw [e.1, e.2]
    generalize xs[j] = x at hx ⊢
    refine LGo.skip ?_
    refine LGo.seq ?_
    refine LGo.region rfl ?_
    refine R.move (h := ?_)
    refine R.move (h := ?_)
    refine R.index I61 (hj := fun _ => ⟨by omega, hx⟩) (h := ?_)
    refine R.loadN A55 (h := ?_)
    refine R.storeA A55 (h := ?_)  -- _ := store
    refine R.assign (h := ?_)
    refine Reg.nil ⟨fun h => (by cases h), ?_⟩
    exact LGo.ret (resD1 Tryz.results91 A55 hA hmd (by omega) (upHi (by rfl)) (by rfl) (by rfl) (by rfl) (by rfl) (.inr rfl))

theorem fld_pub (xs : List Fld) (tag : Int) (hxs : xs.length ≤ 100) : PC Tryz.prog 67 [.sv (.sl 3 (xs.map Fld.c)), .i tag] (.tup [.agg ((fldAt tag xs).c.map LV.sv), .b (fldHas tag xs)]) := by
  refine ⟨LC.of_go Tryz.func67 (c := _) rfl (by kernel_rfl) (by rw [Tryz.ntmps67]; simp) rfl rfl (by simp) (by simp) ?_⟩
  intro B hA hmd
  refine LGo.seq ?_
  refine LGo.region rfl ?_
  refine R.box (h := ?_)
  refine R.alloc Z55 (h := ?_)
  refine R.assign (h := ?_)
  refine Reg.nil ⟨fun h => (by cases h), ?_⟩
  refine LGo.seq ?_
  refine LGo.region rfl ?_
  refine R.move (h := ?_)
  refine R.makeFunc (es := []) (fs := [_]) (h := ?_)
  refine R.callRd (m := 1) (avs := [_, _]) (out := .tup [.agg ((fldAt tag xs).c.map LV.sv), .b (fldHas tag xs)]) (es := [_, _]) (first := []) (cap := []) (fld_find xs tag hxs) (hL := upHi (by rfl)) (h := ?_)
  refine R.extract (h := ?_)
  refine R.extract (h := ?_)
  refine R.storeA A55 (h := ?_)  -- _ := store
  refine R.assign (h := ?_)
  refine Reg.nil ⟨fun h => (by cases h), ?_⟩
  exact LGo.ret (resD1 Tryz.results67 A55 hA hmd (by omega) noHo (by rfl) (by rfl) (by rfl) (by rfl) (.inr rfl))


theorem rule_cl (x : Rule) (tag : Int) : LC Tryz.prog 88 1 [.agg (x.c.map LV.sv), .ptr 0 0] [(0, .box 3 [.i tag])] (.b (decide (x.tag = tag))) [(0, .box 3 [.i tag])] 0 := by
  refine LC.of_go Tryz.func88 (c := _) rfl (by kernel_rfl) (by rw [Tryz.ntmps88]; simp) rfl rfl (by simp [LO.lt, LV.lts, LV.lt]) (by simp) ?_
  intro B hA hmd
  refine LGo.seq ?_
  refine LGo.region rfl ?_
  refine R.box (h := ?_)
  refine R.assign (h := ?_)
  refine Reg.nil ⟨fun h => (by cases h), ?_⟩
  refine LGo.seq ?_
  refine LGo.region rfl ?_
  refine R.field F88_0 (h := ?_)
  refine R.loadB O3 (h := ?_)
  refine R.loadB O3 (h := ?_)
  refine R.bin (run_eql _ _ _ _ _ _) (h := ?_)
  refine R.assign (h := ?_)
  refine Reg.nil ⟨fun h => (by cases h), ?_⟩
  refine LGo.drop 1 (fun o h => (hA o).1 h) (by omega) [(3, (true, .b (decide (x.tag = tag))))] [(0, .box 3 [.i tag])] ⟨rfl, trivial⟩ ⟨rfl, trivial⟩ (by simp [LV.lt]) (by simp [LO.lt, LV.lts, LV.lt]) (h := ?_)
  exact LGo.ret (res1 Tryz.results88 hA hmd (by rfl) (fun _ _ h => h) (by rfl) (.inr rfl))

theorem rule_idx (xs : List Rule) (tag : Int) (hxs : xs.length ≤ 100) : LC Tryz.prog 113 1 [.sv (.sl 5 (xs.map Rule.c)), .fn (.func 88) [] [.ptr 0 0]] [(0, .box 3 [.i tag])] (.i (idx (fun x => decide (Rule.tag x = tag)) 0 xs)) [(0, .box 3 [.i tag])] 0 := by
  refine LC.of_go Tryz.func113 (c := _) rfl (by kernel_rfl) (by rw [Tryz.ntmps113]; simp) rfl rfl (by simp [LO.lt, LV.lts, LV.lt]) (by simp) ?_
  intro B hA hmd
  refine LGo.seq ?_
  refine LGo.region rfl ?_
  refine R.assign (h := ?_)
  refine Reg.nil ⟨fun h => (by cases h), ?_⟩
  refine LGo.seq ?_
  refine LGo.seq ?_
  refine LGo.region rfl ?_
  refine R.move (h := ?_)
  refine R.len S72 (h := ?_)
  refine R.move (h := ?_)
  refine Reg.nil ⟨fun h => (by cases h), ?_⟩
  rw [List.length_map]
  refine LGo.block ?_
  refine LGo.loop ?_
  refine LGo.keep [(0, (true, .sv (.sl 5 (xs.map Rule.c)))), (1, (true, .fn (.func 88) [] [.ptr 0 0])), (7, (true, .i xs.length)), (8, (true, .i (0 : Nat)))] [(0, .box 3 [.i tag])] ⟨rfl, rfl, rfl, rfl, trivial⟩ ⟨rfl, trivial⟩ ?_
  refine LGo.loopK (σ := Nat) (fun k => k ≤ xs.length ∧ idx (fun x => decide (Rule.tag x = tag)) 0 xs = idx (fun x => decide (Rule.tag x = tag)) k (xs.drop k))
    (fun k => [(0, (true, .sv (.sl 5 (xs.map Rule.c)))), (1, (true, .fn (.func 88) [] [.ptr 0 0])), (7, (true, .i xs.length)), (8, (true, .i k))]) (fun _ => [(0, .box 3 [.i tag])]) (fun _ => 1) (fun k => xs.length - k) 0 ⟨by simp, by simp⟩ ?_
  rintro k ⟨hk, hq⟩ ih
  refine LGo.seq ?_
  refine LGo.region rfl ?_
  refine R.bin (run_lss _ _ _ _ _ _) (h := ?_)
  refine Reg.nil ⟨fun h => (by cases h), ?_⟩
  refine LGo.seq ?_
  refine LGo.ifd (ht := fun hc => ?_) (hf := fun hc => ?_)
  · -- then
    have hlt : k < xs.length := by omega
    have hx : (xs.map Rule.c)[((k : Nat) : Int).toNat]? = some (xs[k].c) := by simp [hlt]
    have hd : xs.drop k = xs[k] :: xs.drop (k + 1) := List.drop_eq_getElem_cons hlt
    rw [hd] at hq
    generalize xs[k] = x at hx hq
    clear hd
    refine LGo.skip ?_
    refine LGo.seq ?_
    refine LGo.block ?_
    refine LGo.seq ?_
    refine LGo.region rfl ?_
    refine R.move (h := ?_)
    refine R.assign (h := ?_)
    refine Reg.nil ⟨fun h => (by cases h), ?_⟩
    refine LGo.seq ?_
    refine LGo.region rfl ?_
    refine R.move (h := ?_)
    refine R.move (h := ?_)
    refine R.move (h := ?_)
    refine R.index I72 (hj := fun _ => ⟨by omega, hx⟩) (h := ?_)
    refine R.loadN A88 (h := ?_)
    refine R.callRd (m := 1) (avs := [_]) (out := .b (decide (x.tag = tag))) (es := [_]) (first := []) (cap := [.ptr 0 0]) (rule_cl x tag) (hL := fun _ _ h => h) (h := ?_)
    refine Reg.nil ⟨fun h => (by cases h), ?_⟩
    refine LGo.ifd (ht := fun hc1 => ?_) (hf := fun hc1 => ?_)
    · -- then
      refine LGo.seq ?_
      refine LGo.region rfl ?_
      refine R.move (h := ?_)
      refine R.assign (h := ?_)
      refine Reg.nil ⟨fun h => (by cases h), ?_⟩
      have e : idx (fun x => decide (Rule.tag x = tag)) k (x :: xs.drop (k + 1)) = k := by simp [idx, hc1]
      rw [hq, e]
      exact LGo.ret (res1 Tryz.results113 hA hmd (by rfl) (fun _ _ h => h) (by rfl) (.inr rfl))
    · -- else
      have e : idx (fun x => decide (Rule.tag x = tag)) k (x :: xs.drop (k + 1)) = idx (fun x => decide (Rule.tag x = tag)) (k + 1) (xs.drop (k + 1)) := by simp [idx, hc1]
      rw [e] at hq
      refine LGo.skip ?_
      refine LGo.inBlock ?_
      refine LGo.region rfl ?_
      refine R.add (h := ?_)
      refine R.move (h := ?_)
      refine Reg.nil ⟨fun h => (by cases h), ?_⟩
      refine LGo.inLoop ?_
      exact LGo.next 1 (fun o h => (hA o).1 h) (by omega) (ih (k + 1) ⟨by omega, hq⟩ (by omega)) ⟨rfl, rfl, rfl, rfl, trivial⟩ ⟨rfl, trivial⟩
  · -- else
    have hk' : k = xs.length := by omega
    subst hk'
    simp only [List.drop_length, idx] at hq
    rw [hq]
    refine LGo.exit rfl ?_
    refine LGo.seq ?_
    refine LGo.region rfl ?_
    refine R.assign (h := ?_)
    refine Reg.nil ⟨fun h => (by cases h), ?_⟩
    exact LGo.ret (res1 Tryz.results113 hA hmd (by rfl) (fun _ _ h => h) (by rfl) (.inr rfl))

theorem rule_find (xs : List Rule) (tag : Int) (hxs : xs.length ≤ 100) : LC Tryz.prog 87 1 [.sv (.sl 5 (xs.map Rule.c)), .fn (.func 88) [] [.ptr 0 0]] [(0, .box 3 [.i tag])] (.tup [.agg ((ruleAt tag xs).c.map LV.sv), .b (ruleHas tag xs)]) [(0, .box 3 [.i tag])] 0 := by
  refine LC.of_go Tryz.func87 (c := _) rfl (by kernel_rfl) (by rw [Tryz.ntmps87]; simp) rfl rfl (by simp [LO.lt, LV.lts, LV.lt]) (by simp) ?_
  intro B hA hmd
  refine LGo.seq ?_
  refine LGo.region rfl ?_
  refine R.alloc Z88 (h := ?_)
  refine R.assign (h := ?_)
  refine Reg.nil ⟨fun h => (by cases h), ?_⟩
  refine LGo.seq ?_
  refine LGo.region rfl ?_
  refine R.move (h := ?_)
  refine R.move (h := ?_)
  refine R.callRd (m := 1) (avs := [_, _]) (out := .i (idx (fun x => decide (Rule.tag x = tag)) 0 xs)) (es := [_, _]) (first := []) (cap := []) (rule_idx xs tag hxs) (hL := upHi (by rfl)) (h := ?_)
  refine R.assign (h := ?_)
  refine Reg.nil ⟨fun h => (by cases h), ?_⟩
  refine LGo.seq ?_
  refine LGo.seq ?_
  refine LGo.region rfl ?_
  refine R.move (h := ?_)
  refine R.bin (run_lss _ _ _ _ _ _) (h := ?_)
  refine Reg.nil ⟨fun h => (by cases h), ?_⟩
  have hsp := idx_spec (fun x => decide (Rule.tag x = tag)) xs 0
  refine LGo.ifd (ht := fun hc => ?_) (hf := fun hc => ?_)
  · -- then
    have e : ruleAt tag xs = default ∧ ruleHas tag xs = false := by
      rcases hsp with ⟨h1, h2⟩ | ⟨j, hj, h1, h2⟩
      · simp [ruleAt, ruleHas, h2]
      · omega
    rw [e.1, e.2]
    refine LGo.seq ?_
    refine LGo.region rfl ?_
    refine R.alloc Z88 (h := ?_)
    refine Reg.nil ⟨fun h => (by cases h), ?_⟩
    refine LGo.seq ?_
    refine LGo.region rfl ?_
    refine R.loadA A88 (h := ?_)
    refine R.storeA A88 (h := ?_)  -- _ := store
    refine R.assign (h := ?_)
    refine Reg.nil ⟨fun h => (by cases h), ?_⟩
    exact LGo.ret (resD1 Tryz.results87 A88 hA hmd (by omega) (upHi (by rfl)) (by rfl) (by rfl) (by rfl) (by rfl) (.inr rfl))
  · -- else
    rcases hsp with ⟨h1, h2⟩ | ⟨j, hj, h1, h2⟩
    · omega
    have hx : (xs.map Rule.c)[(idx (fun x => decide (Rule.tag x = tag)) 0 xs).toNat]? = some (xs[j].c) := by rw [h1]; simp [hj]
    have e : ruleAt tag xs = xs[j] ∧ ruleHas tag xs = true := by simp [ruleAt, ruleHas, h2]
    rw [e.1, e.2]
    generalize xs[j] = x at hx ⊢
    refine LGo.skip ?_
    refine LGo.seq ?_
    refine LGo.region rfl ?_
    refine R.move (h := ?_)
    refine R.move (h := ?_)
    refine R.index I72 (hj := fun _ => ⟨by omega, hx⟩) (h := ?_)
    refine R.loadN A88 (h := ?_)
    refine R.storeA A88 (h := ?_)  -- _ := store
    refine R.assign (h := ?_)
    refine Reg.nil ⟨fun h => (by cases h), ?_⟩
    exact LGo.ret (resD1 Tryz.results87 A88 hA hmd (by omega) (upHi (by rfl)) (by rfl) (by rfl) (by rfl) (by rfl) (.inr rfl))

theorem rule_pub (xs : List Rule) (tag : Int) (hxs : xs.length ≤ 100) : PC Tryz.prog 64 [.sv (.sl 5 (xs.map Rule.c)), .i tag] (.tup [.agg ((ruleAt tag xs).c.map LV.sv), .b (ruleHas tag xs)]) := by
  refine ⟨LC.of_go Tryz.func64 (c := _) rfl (by kernel_rfl) (by rw [Tryz.ntmps64]; simp) rfl rfl (by simp) (by simp) ?_⟩
  intro B hA hmd
  refine LGo.seq ?_
  refine LGo.region rfl ?_
  refine R.box (h := ?_)
  refine R.alloc Z88 (h := ?_)
  refine R.assign (h := ?_)
  refine Reg.nil ⟨fun h => (by cases h), ?_⟩
  refine LGo.seq ?_
  refine LGo.region rfl ?_
  refine R.move (h := ?_)
  refine R.makeFunc (es := []) (fs := [_]) (h := ?_)
  refine R.callRd (m := 1) (avs := [_, _]) (out := .tup [.agg ((ruleAt tag xs).c.map LV.sv), .b (ruleHas tag xs)]) (es := [_, _]) (first := []) (cap := []) (rule_find xs tag hxs) (hL := upHi (by rfl)) (h := ?_)
  refine R.extract (h := ?_)
  refine R.extract (h := ?_)
  refine R.storeA A88 (h := ?_)  -- _ := store
  refine R.assign (h := ?_)
  refine Reg.nil ⟨fun h => (by cases h), ?_⟩
  exact LGo.ret (resD1 Tryz.results64 A88 hA hmd (by omega) noHo (by rfl) (by rfl) (by rfl) (by rfl) (.inr rfl))





end Go.Proofs.YtcobkjognpjikaaGreatDoor
