/- fields.digits and the loop body's calls: the bytes of a number, from the highest on. -/
import Derived.Test.YtmiamhegohlglaaB
set_option linter.unusedSimpArgs false
set_option linter.unusedVariables false
namespace Go.Proofs.Ytmiamhegohlglaa

/-- the lowest k bytes of x, from the highest on -/
def low (x : Int) : Nat → List Int
  | 0 => []
  | k + 1 => x / 2 ^ (8 * k) % 256 :: low x k

def digs (x : Int) : List Int := low x ((bits x.toNat + 7) / 8)

abbrev rounds (l : List Int) : List (List LV) := l.map fun d => [.y d]

/-- the caller's objects hold the number in a box -/
def HoldsNum (m c : Nat) (x : Int) (L : List (Nat × LO)) : Prop := L.map (·.1) = List.range m ∧ (∀ p ∈ L, p.2.lt m = true) ∧ ∃ TB, hp L c = some (.box TB [.u x])

theorem YRun.head {P : Program} {y : Nat} {C : List (Nat × LO) → Prop} {xs : List (List LV)} {L L' : List (Nat × LO)} (h : YRun P y C xs L L') : C L := by
  cases h <;> assumption

theorem pow_split (k : Nat) (hk : k ≤ 7) : min (Int.toNat (8 * (k : Int))) IntKind.u64.bits = 8 * k := by
  simp only [IntKind.bits]; omega

theorem wrap_u8 (a : Int) : IntKind.u8.wrap a = a % 256 := by
  simp [IntKind.wrap, IntKind.bits, IntKind.signed]

theorem digits1 (x : Int) (h0 : 0 ≤ x) (h1 : x < 18446744073709551616) {m y c : Nat} {L L' : List (Nat × LO)} (hy : y < m) (hc : c < m) (hL : HoldsNum m c x L) (hr : YRun Try.prog y (HoldsNum m c x) (rounds (digs x)) L L') :
    LC Try.prog 44 m [.yld y, .ptr c 0] L (.tup []) L' 0 := by
  have hL' : ∀ {xs : List (List LV)} {L L' : List (Nat × LO)}, YRun Try.prog y (HoldsNum m c x) xs L L' → HoldsNum m c x L' := by
    intro xs L L' h
    induction h with
    | nil h => exact h
    | stop _ _ h => exact h
    | go _ _ _ ih => exact ih
  refine LC.of_go Try.func44 (c := _) rfl (by kernel_rfl) (by rw [Try.ntmps44]; simp) (by simp [LV.lts, LV.lt, hy, hc]) hL.1 hL.2.1 (fun p hp' => .inl (by rw [hL.1, ← (hL' hr).1]; exact List.mem_map.2 ⟨p, hp', rfl⟩)) ?_
  intro B hA hmd
  obtain ⟨hL1, hL2, TB, hLb⟩ := hL
  have hb := bits_le x.toNat 64 (by omega)
  refine LGo.seq ?_
  refine LGo.region rfl ?_  -- region 0
  refine R.loadB O32 (hb := hLb) (h := ?_)  -- t4 := load
  refine R.callP (es := [_]) (fun _ => len64_P x h0 h1) (h := ?_)  -- t5 := call
  refine R.add (h := ?_)  -- t6 := binOp
  refine R.quo (h := ?_)  -- t7 := binOp
  refine R.sub (h := ?_)  -- t8 := binOp
  refine R.assign (h := ?_)  -- t3 := assign
  refine Reg.nil ⟨fun h => (by cases h), ?_⟩
  refine LGo.block ?_
  refine LGo.loop ?_
  refine LGo.keep [(0, (true, .yld y)), (1, (true, .ptr c 0)), (3, (true, .i ((((bits x.toNat : Nat) : Int) + 7) / 8 - 1)))] L ⟨rfl, rfl, rfl, trivial⟩ (KeepL.of fun p hp' => lookup_of_nodup (by rw [hL1]; exact List.nodup_range) hp') ?_
  have hdg : ∃ k : Nat, k ≤ 8 ∧ ((bits x.toNat : Nat) + 7) / 8 = k ∧ ((((bits x.toNat : Nat) : Int) + 7) / 8 - 1 = (k : Int) - 1) := ⟨(bits x.toNat + 7) / 8, by omega, rfl, by omega⟩
  obtain ⟨k0, hk8, hk, hk'⟩ := hdg
  rw [hk']
  have hr' : YRun Try.prog y (HoldsNum m c x) (rounds (low x k0)) L L' := by rw [← hk]; exact hr
  refine LGo.loopK (σ := Nat × List (Nat × LO)) (fun s => s.1 ≤ 8 ∧ HoldsNum m c x s.2 ∧ YRun Try.prog y (HoldsNum m c x) (rounds (low x s.1)) s.2 L')
    (fun s => [(0, (true, .yld y)), (1, (true, .ptr c 0)), (3, (true, .i ((s.1 : Int) - 1)))]) (fun s => s.2) (fun _ => m) (fun s => s.1) (k0, L) ⟨hk8, ⟨hL1, hL2, TB, hLb⟩, hr'⟩ ?_
  rintro ⟨k, Lc⟩ ⟨q1, q2, q3⟩ ih
  dsimp only at q1 q2 q3 ih ⊢
  obtain ⟨q4, q5, TB', q6⟩ := q2
  refine LGo.seq ?_
  refine LGo.seq ?_
  refine LGo.region rfl ?_  -- region 1
  refine R.move (h := ?_)  -- t9 := move
  refine R.bin (run_geq _ _ _ _ _ _) (h := ?_)  -- t10 := binOp
  refine Reg.nil ⟨fun h => (by cases h), ?_⟩
  refine LGo.ifd (ht := fun hc => ?_) (hf := fun hc => ?_)
  · -- then
    cases k with
    | zero => exact absurd hc (by simp)
    | succ k =>
    have hkk : ((k + 1 : Nat) : Int) - 1 = k := by omega
    rw [hkk] at hc
    simp only [hkk]
    refine LGo.skip ?_
    refine LGo.seq ?_
    refine LGo.block ?_
    refine LGo.seq ?_
    refine LGo.region rfl ?_  -- region 3
    refine R.move (h := ?_)  -- t13 := move
    refine R.loadB O32 (hb := q6) (h := ?_)  -- t14 := load
    refine R.move (h := ?_)  -- t15 := move
    refine R.mul (h := ?_)  -- t16 := binOp
    refine R.shr (h := ?_)  -- t17 := binOp
    refine R.convW Try.runUnderlying32 Try.runUnderlying5 (h := ?_)  -- t18 := convert
    rw [pow_split k (by omega), wrap_u8]
    have hks : 0 < k + 1 := by omega
    simp only [low, rounds, List.map_cons] at q3
    have hC : ∀ {L1 : List (Nat × LO)}, HoldsNum m c x L1 → KeepL (hp (L1 ++ Lc)) L1 := fun h => KeepL.app (by rw [h.1]; exact List.nodup_range)
    cases q3 with
    | stop _ hyl hc1 =>
      refine R.callYld (es := [_]) hyl (hL := fun _ _ h => h) (h := ?_)
      refine R.not (h := ?_)
      refine Reg.nil ⟨fun h => (by cases h), ?_⟩
      refine LGo.ifb (ht := fun _ => ?_) (hf := fun hc => by cases hc)
      refine LGo.keep [] _ trivial (hC hc1) ?_
      exact LGo.ret (res0 Try.results44 hA hmd (by rfl) (fun _ _ h => h) (.inr rfl))
    | @go _ _ _ L1 _ _ hyl hrest =>
      have hc1 : HoldsNum m c x L1 := hrest.head
      refine R.callYld (es := [_]) hyl (hL := fun _ _ h => h) (h := ?_)
      refine R.not (h := ?_)
      refine Reg.nil ⟨fun h => (by cases h), ?_⟩
      refine LGo.ifb (ht := fun hc => by cases hc) (hf := fun _ => ?_)
      refine LGo.skip ?_
      refine LGo.inBlock ?_
      refine LGo.region rfl ?_  -- region 2
      refine R.move (h := ?_)  -- t11 := move
      refine R.sub (h := ?_)  -- t12 := binOp
      refine R.assign (h := ?_)  -- t3 := assign
      refine Reg.nil ⟨fun h => (by cases h), ?_⟩
      refine LGo.inLoop ?_
      refine LGo.keep [(0, (true, .yld y)), (1, (true, .ptr c 0)), (3, (true, .i ((k : Int) - 1)))] L1 ⟨rfl, rfl, rfl, trivial⟩ (hC hc1) ?_
      exact ih (k, L1) ⟨by omega, hc1, hrest⟩ (by simp)
  · -- else
    have hk0 : k = 0 := by omega
    subst hk0
    simp only [low, rounds, List.map_nil] at q3
    cases q3 with
    | nil h =>
      refine LGo.exit rfl ?_
      exact LGo.done (res0 Try.results44 hA hmd (by rfl) (fun _ _ h => h) (.inl rfl))

/-- the numbers that digits hands out, as a function value -/
theorem digits_L (x : Int) : LC Try.prog 41 0 [.u x] [] (.fn (.func 44) [] [.ptr 0 0]) [(0, .box 32 [.u x])] 1 := by
  refine LC.of_go Try.func41 (c := _) rfl (by kernel_rfl) (by rw [Try.ntmps41]; simp) rfl rfl (by simp) (by simp) ?_
  intro B hA hmd
  refine LGo.seq ?_
  refine LGo.region rfl ?_  -- region 0
  refine R.box (h := ?_)  -- t1 := box
  refine R.assign (h := ?_)  -- t2 := assign
  refine Reg.nil ⟨fun h => (by cases h), ?_⟩
  refine LGo.seq ?_
  refine LGo.region rfl ?_  -- region 1
  refine R.makeFunc (es := []) (fs := [_]) (h := ?_)  -- t3 := makeFunc
  refine R.assign (h := ?_)  -- t2 := assign
  refine Reg.nil ⟨fun h => (by cases h), ?_⟩
  exact LGo.ret (res1 Try.results41 hA hmd (by rfl) (fun _ _ h => h) (by rfl) (.inr rfl))

end Go.Proofs.Ytmiamhegohlglaa
