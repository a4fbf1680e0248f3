/- words: what a list's text says. -/
import Derived.Test.YtmjpkfjgknbfeaaGreatDoorSF
set_option linter.unusedSimpArgs false
set_option linter.unusedVariables false
namespace Go.Proofs.YtmjpkfjgknbfeaaGreatDoor

abbrev TT := List UInt8 × List UInt8
def endOf (r : List UInt8) : List UInt8 := if cutIs r 45 = true then cut2 r 45 else cut1 r 45
/-- a run: its first and its last number -/
def runOf (r : List UInt8) : Option TT :=
  if decT (cut1 r 45) = true ∧ decT (endOf r) = true ∧ (cutIs r 45 = true → cmpT (cut1 r 45) (endOf r) < 0) then some (cut1 r 45, endOf r) else none
def okPrev : Option (List UInt8) → List UInt8 → Bool
  | none, _ => true
  | some p, a => decide (cmpT (nextT p) a < 0)
def goP : Option (List UInt8) → List (List UInt8) → Option (List TT)
  | _, [] => some []
  | pv, r :: rs => match runOf r with
    | none => none
    | some (a, b) => if okPrev pv a = true then (goP (some b) rs).map ((a, b) :: ·) else none
theorem decC_decT {s : List UInt8} (h : ¬ (s.headD 0).toNat = 45) : decC s = decT s := decC_all (fun h2 => h h2.2.1)
theorem decT_45 {s : List UInt8} (h : (s.headD 0).toNat = 45) : decT s = false := by
  cases hd : decT s with
  | false => rfl
  | true =>
    obtain ⟨c, l, rfl, h1, _, _⟩ := decT_split hd
    unfold digC at h1
    simp at h1 h
    omega
theorem cut1_45 (r : List UInt8) : ¬ ((cut1 r 45).headD 0).toNat = 45 := by
  have hno : (45 : UInt8) ∉ cut1 r 45 := by
    rcases cut1_cases r 45 with ⟨h1, h2⟩ | ⟨a, b, h1, h2, h3⟩
    · rw [h1]; exact h2
    · rw [h3]; exact h2
  cases hc : cut1 r 45 with
  | nil => simp
  | cons x l =>
    rw [hc] at hno
    intro h
    exact hno (by rw [show x = 45 from UInt8.toNat.inj h]; simp)
def condM (f e : List UInt8) (is : Bool) (k : Nat) (last : List UInt8) : Bool := !decC f || !decC e || decide (((e.headD 0).toNat : Int) = 45) || (is && decide (cmpT f e ≥ 0)) || (decide ((k : Int) > 0) && !decide (cmpT (nextT last) f < 0))
def pvOf (k : Nat) (last : List UInt8) : Option (List UInt8) := if 0 < k then some last else none
theorem pv_ok (k : Nat) (last f : List UInt8) : okPrev (pvOf k last) f = !(decide ((k : Int) > 0) && !decide (cmpT (nextT last) f < 0)) := by
  unfold pvOf
  by_cases hk : 0 < k
  · rw [if_pos hk, show decide ((k : Int) > 0) = true from by simp; omega]; simp [okPrev]
  · rw [if_neg hk, show decide ((k : Int) > 0) = false from by simp; omega]; simp [okPrev]
theorem runOf_cond (r : List UInt8) : (!decC (cut1 r 45) || !decC (endOf r) || decide ((((endOf r).headD 0).toNat : Int) = 45) || (cutIs r 45 && decide (cmpT (cut1 r 45) (endOf r) ≥ 0))) = !decide (decT (cut1 r 45) = true ∧ decT (endOf r) = true ∧ (cutIs r 45 = true → cmpT (cut1 r 45) (endOf r) < 0)) := by
  rw [decC_decT (cut1_45 r)]
  by_cases h45 : ((endOf r).headD 0).toNat = 45
  · rw [decT_45 h45, show decide ((((endOf r).headD 0).toNat : Int) = 45) = true from decide_eq_true (by omega)]
    simp
  · rw [decC_decT h45, show decide ((((endOf r).headD 0).toNat : Int) = 45) = false from decide_eq_false (by omega)]
    cases decT (cut1 r 45) <;> cases decT (endOf r) <;> cases cutIs r 45 <;> simp
    rw [Bool.eq_iff_iff]
    simp
theorem goP_step (r : List UInt8) (rs : List (List UInt8)) (k : Nat) (last : List UInt8) :
    (condM (cut1 r 45) (endOf r) (cutIs r 45) k last = true → goP (pvOf k last) (r :: rs) = none) ∧
    (condM (cut1 r 45) (endOf r) (cutIs r 45) k last = false → decT (cut1 r 45) = true ∧ decT (endOf r) = true ∧ goP (pvOf k last) (r :: rs) = (goP (some (endOf r)) rs).map ((cut1 r 45, endOf r) :: ·)) := by
  unfold condM
  rw [runOf_cond, show (decide ((k : Int) > 0) && !decide (cmpT (nextT last) (cut1 r 45) < 0)) = !okPrev (pvOf k last) (cut1 r 45) from by rw [pv_ok, Bool.not_not]]
  by_cases hr : decT (cut1 r 45) = true ∧ decT (endOf r) = true ∧ (cutIs r 45 = true → cmpT (cut1 r 45) (endOf r) < 0)
  · have e : runOf r = some (cut1 r 45, endOf r) := if_pos hr
    rw [goP, e, decide_eq_true hr]
    cases h : okPrev (pvOf k last) (cut1 r 45) <;> simp [h, hr.1, hr.2.1]
  · have e : runOf r = none := if_neg hr
    rw [goP, e, decide_eq_false hr]
    simp
theorem split_mem (c : UInt8) (s : List UInt8) : ∀ r ∈ Lib.split s [c], r.length ≤ s.length := by
  have key : ∀ (s cur : List UInt8), ∀ r ∈ pGo c cur s, r.length ≤ cur.length + s.length := by
    intro s
    induction s with
    | nil => intro cur r hr; simp [pGo] at hr; subst hr; simp
    | cons x s ih =>
      intro cur r hr
      rw [pGo] at hr
      split at hr
      · rcases List.mem_cons.1 hr with rfl | hr
        · omega
        · have := ih [] r hr; simp at this ⊢; omega
      · have := ih _ r hr; simp at this ⊢; omega
  intro r hr
  rw [← split_pGo c _ s (Nat.le_refl _)] at hr
  have := key s [] r hr
  simpa using this
theorem endOf_len (r : List UInt8) : (endOf r).length ≤ r.length := by
  unfold endOf cut2
  split
  · split
    · rw [List.length_drop]; omega
    · simp
  · exact cut1_len r 45
def pairC (p : TT) : List SV := [.val (.string ⟨p.1.toArray⟩), .val (.string ⟨p.2.toArray⟩)]
def lastP (ps : List TT) : List UInt8 := (ps.getLast?.map (·.2)).getD []
def expP : List TT → List Int → Option (List Int)
  | [], out => some out
  | p :: r, out => if (500 : Int) - out.length ≤ (val10 0 p.2 : Int) - (val10 0 p.1 : Int) then none else expP r (out ++ (List.range (val10 0 p.2 + 1 - val10 0 p.1)).map fun j => ((val10 0 p.1 + j : Nat) : Int))
def plistW (s : List UInt8) : List Int × Int := if s = [45] then ([], 0) else match goP none (Lib.split s [44]) with
  | none => ([], 6)
  | some ps => if 0 < cmpT (lastP ps) (Lib.itoa 1000000000) then ([], 7) else match expP ps [] with
    | none => ([], 3)
    | some l => (l, 0)

end Go.Proofs.YtmjpkfjgknbfeaaGreatDoor
