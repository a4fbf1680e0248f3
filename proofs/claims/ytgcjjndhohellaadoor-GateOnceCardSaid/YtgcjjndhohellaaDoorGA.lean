/- gates: what is a gate, when it is open; the check of gates. -/
import Derived.Test.YtgcjjndhohellaaDoorKF
import Derived.Test.YtgcjjndhohellaaDoorT
set_option linter.unusedSimpArgs false
set_option linter.unusedVariables false
namespace Go.Proofs.YtgcjjndhohellaaDoor

/-- a gate: its sections, from when and until when it is open -/
structure GtG where
  secs : List Int
  fr : Int
  to : Int
  deriving DecidableEq
instance : Inhabited GtG := ⟨⟨[], 0, 0⟩⟩
/-- an entry -/
structure GtE where
  seat : Int
  serial : Int
  epoch : Int
  gate : Int
  time : Int
  deriving DecidableEq
instance : Inhabited GtE := ⟨⟨0, 0, 0, 0, 0⟩⟩
structure GtS where
  gates : List GtG
  ents : List GtE
  deriving DecidableEq
/-- a call -/
structure GtC where
  gate : Int
  seat : Int
  owner : Int
  serial : Int
  epoch : Int
  sec : Int
  now : Int
def GtG.c (g : GtG) : List SV := [.sl 1 (ic .i64 g.secs), .val (.int .i64 g.fr), .val (.int .i64 g.to)]
def GtE.c (x : GtE) : List SV := [.val (.int .u32 x.seat), .val (.int .u64 x.serial), .val (.int .u64 x.epoch), .val (.int .i64 x.gate), .val (.int .i64 x.time)]
def GtS.c (s : GtS) : List SV := [.sl 3 (s.gates.map GtG.c), .sl 5 (s.ents.map GtE.c)]
def GtC.c (x : GtC) : List SV := [.val (.int .i64 x.gate), .val (.int .u32 x.seat), .val (.int .u32 x.owner), .val (.int .u64 x.serial), .val (.int .u64 x.epoch), .val (.int .i64 x.sec), .val (.int .i64 x.now)]
def S64 (n : Int) : Prop := -9223372036854775808 ≤ n ∧ n ≤ 9223372036854775807
def U64 (n : Int) : Prop := 0 ≤ n ∧ n < 18446744073709551616
def U32 (n : Int) : Prop := 0 ≤ n ∧ n < 4294967296
def GtG.ok (g : GtG) : Prop := g.secs.length ≤ maxLen ∧ (∀ n ∈ g.secs, S64 n) ∧ S64 g.fr ∧ S64 g.to
def GtE.ok (x : GtE) : Prop := U32 x.seat ∧ U64 x.serial ∧ U64 x.epoch ∧ S64 x.gate ∧ S64 x.time
def GtS.ok (s : GtS) : Prop := s.gates.length ≤ maxLen ∧ (∀ g ∈ s.gates, g.ok) ∧ s.ents.length ≤ maxLen ∧ ∀ x ∈ s.ents, x.ok
def GtC.ok (x : GtC) : Prop := S64 x.gate ∧ U32 x.seat ∧ U32 x.owner ∧ U64 x.serial ∧ U64 x.epoch ∧ S64 x.sec ∧ S64 x.now
def GtS.zero : GtS := ⟨[], []⟩
def GtE.zero : GtE := ⟨0, 0, 0, 0, 0⟩
/-- sections ascend, below 8: the last of them -/
def goodGo : List Int → Int → Option Int
  | [], last => some last
  | n :: r, last => if (decide (n ≤ last) || decide (8 ≤ n)) = true then none else goodGo r n
def goodG (g : GtG) : Bool := match goodGo g.secs (-1) with
  | none => false
  | some last => (decide (0 ≤ last) && decide (0 ≤ g.fr)) && decide (g.fr < g.to)
def openI (g : GtG) (t : Int) : Int := if t < g.fr then -1 else if g.to ≤ t then 1 else 0
def checkG (l : List GtG) : Int := if 8 < (l.length : Int) then 3 else if (decide ((l.length : Int) = 0) || l.any fun g => !goodG g) = true then 6 else 0
abbrev K3 := Int × Int × Int
def GtE.key (x : GtE) : K3 := (x.seat, x.epoch, x.serial)
def GtC.key (x : GtC) : K3 := (x.seat, x.epoch, x.serial)
def K3.v (k : K3) : List Value := [.int .u64 k.1, .int .u64 k.2.1, .int .u64 k.2.2]
def cmpI (x y : Int) : Int := if x < y then -1 else if y < x then 1 else 0
def cmpK (a b : K3) : Int := if cmpI a.1 b.1 = 0 then (if cmpI a.2.1 b.2.1 = 0 then cmpI a.2.2 b.2.2 else cmpI a.2.1 b.2.1) else cmpI a.1 b.1
theorem cmpI_0 {x y : Int} : cmpI x y = 0 ↔ x = y := by unfold cmpI; (repeat' split) <;> simp <;> omega
theorem cmpI_lt {x y : Int} : cmpI x y < 0 ↔ x < y := by unfold cmpI; (repeat' split) <;> simp <;> omega
/-- the order of keys -/
def ltK (a b : K3) : Prop := a.1 < b.1 ∨ a.1 = b.1 ∧ (a.2.1 < b.2.1 ∨ a.2.1 = b.2.1 ∧ a.2.2 < b.2.2)
theorem cmpK_lt {a b : K3} : cmpK a b < 0 ↔ ltK a b := by
  unfold cmpK ltK
  by_cases h1 : cmpI a.1 b.1 = 0
  · rw [if_pos h1]
    have e1 := cmpI_0.1 h1
    by_cases h2 : cmpI a.2.1 b.2.1 = 0
    · rw [if_pos h2, cmpI_lt]
      have e2 := cmpI_0.1 h2
      omega
    · rw [if_neg h2, cmpI_lt]
      have e2 : a.2.1 ≠ b.2.1 := fun e => h2 (cmpI_0.2 e)
      omega
  · rw [if_neg h1, cmpI_lt]
    have e1 : a.1 ≠ b.1 := fun e => h1 (cmpI_0.2 e)
    omega
theorem cmpK_0 {a b : K3} : cmpK a b = 0 ↔ a = b := by
  obtain ⟨a1, a2, a3⟩ := a
  obtain ⟨b1, b2, b3⟩ := b
  unfold cmpK
  dsimp only
  by_cases h1 : cmpI a1 b1 = 0
  · rw [if_pos h1]
    have e1 := cmpI_0.1 h1
    by_cases h2 : cmpI a2 b2 = 0
    · rw [if_pos h2, cmpI_0]
      have e2 := cmpI_0.1 h2
      simp [e1, e2]
    · rw [if_neg h2]
      have e2 : a2 ≠ b2 := fun e => h2 (cmpI_0.2 e)
      simp [h2, e2]
  · rw [if_neg h1]
    have e1 : a1 ≠ b1 := fun e => h1 (cmpI_0.2 e)
    simp [h1, e1]
theorem ltK_irr (a : K3) : ¬ ltK a a := by unfold ltK; omega
theorem ltK_tr {a b c : K3} (h : ltK a b) (k : ltK b c) : ltK a c := by unfold ltK at *; omega
theorem ltK_tot {a b : K3} (h : a ≠ b) : ltK a b ∨ ltK b a := by
  obtain ⟨a1, a2, a3⟩ := a
  obtain ⟨b1, b2, b3⟩ := b
  have : a1 ≠ b1 ∨ a2 ≠ b2 ∨ a3 ≠ b3 := by
    by_cases h1 : a1 = b1
    · by_cases h2 : a2 = b2
      · exact .inr (.inr fun h3 => h (by rw [h1, h2, h3]))
      · exact .inr (.inl h2)
    · exact .inl h1
  unfold ltK
  dsimp only
  omega
/-- what is wrong with an entry behind another one -/
def badE (gs : List GtG) (p : Option GtE) (x : GtE) : Bool :=
  ((decide (x.gate < 0) || decide ((gs.length : Int) ≤ x.gate)) || !decide (openI (gs.getD x.gate.toNat default) x.time = 0)) || (match p with | none => false | some y => decide (0 ≤ cmpK y.key x.key))
def badGo (gs : List GtG) : Option GtE → List GtE → Bool
  | _, [] => false
  | p, x :: r => badE gs p x || badGo gs (some x) r
def checkGS (s : GtS) : Int := if checkG s.gates ≠ 0 then checkG s.gates else if 500 < (s.ents.length : Int) then 3 else if badGo s.gates none s.ents = true then 6 else 0
def GtC.ent (c : GtC) : GtE := ⟨c.seat, c.serial, c.epoch, c.gate, c.now⟩
def hasK (k : K3) (l : List GtE) : Bool := l.any fun x => decide (x.key = k)
/-- why a call is refused; 0: it is not -/
def refuse (gs : List GtG) (es : List GtE) (c : GtC) : Int :=
  if (decide (c.gate < 0) || decide ((gs.length : Int) ≤ c.gate)) = true then 4 else
  if (!(gs.getD c.gate.toNat default).secs.contains c.sec) = true then 15 else
  if openI (gs.getD c.gate.toNat default) c.now < 0 then 18 else
  if 0 < openI (gs.getD c.gate.toNat default) c.now then 13 else
  if hasK c.key es = true then 8 else
  if (es.length : Int) = 500 then 5 else 0
def insE (x : GtE) : List GtE → List GtE
  | [] => [x]
  | y :: l => if cmpK y.key x.key < 0 then y :: insE x l else x :: y :: l
def enterS (s : GtS) (c : GtC) : GtS × Int := if checkGS s ≠ 0 then (GtS.zero, checkGS s) else if refuse s.gates s.ents c ≠ 0 then (GtS.zero, refuse s.gates s.ents c) else (⟨s.gates, insE c.ent s.ents⟩, 0)
def findS (s : GtS) (k : K3) : GtE × Int := if checkGS s ≠ 0 then (GtE.zero, checkGS s) else match s.ents.find? (fun x => decide (x.key = k)) with
  | none => (GtE.zero, 4)
  | some x => (x, 0)
def countE (g : Int) (l : List GtE) : Int := l.foldl (fun n x => if x.gate = g then n + 1 else n) 0
def countS (s : GtS) (g : Int) : Int × Int := if checkGS s ≠ 0 then (0, checkGS s) else if (decide (g < 0) || decide ((s.gates.length : Int) ≤ g)) = true then (0, 4) else (countE g s.ents, 0)
def newS (l : List GtG) : GtS × Int := if checkG l ≠ 0 then (GtS.zero, checkG l) else (⟨l, []⟩, 0)

def finG (x : GtG) : Option Int → Bool
  | none => false
  | some last => (decide (0 ≤ last) && decide (0 ≤ x.fr)) && decide (x.fr < x.to)
theorem goodG_fin (x : GtG) : goodG x = finG x (goodGo x.secs (-1)) := by unfold goodG finG; cases goodGo x.secs (-1) <;> rfl
theorem icA {l : List Int} {j : Nat} (h : j < l.length) : (ic .i64 l)[((j : Nat) : Int).toNat]? = some [.val (.int .i64 l[j])] := by
  rw [Int.toNat_natCast]; exact ic_get (List.getElem?_eq_getElem h)

theorem good_P (z : GtG) (hz : z.secs.length ≤ 100000) : PC Tryd.prog 61 [.agg (z.c.map LV.sv)] (.b (goodG z)) := by
 refine ⟨LC.of_go Tryd.func61 (c := _) rfl (by kernel_rfl) (by rw [Tryd.ntmps61]; simp) rfl rfl (by simp [LO.lt, LV.lts, LV.lt, lts_sv]) (by simp) ?_⟩
 intro B hA hmd
 obtain ⟨g, e0⟩ : ∃ g, goodG z = g := ⟨_, rfl⟩
 have e1 := e0
 rw [goodG_fin] at e1
 rw [e0]
 refine .seq ?_
 refine .region rfl ?_
 refine R.box (h := ?_)
 refine R.assign (h := ?_)
 refine .n0 ?_
 refine .seq ?_
 refine .region rfl ?_
 refine R.assign (h := ?_)
 refine .n0 ?_
 refine .seq ?_
 refine .seq ?_
 refine .region rfl ?_
 first | refine R.field F59_0 (h := ?_) | refine R.fieldAt F59_0 (h := ?_)
 first | refine R.loadB O57 (h := ?_) | refine R.load1 O57 (h := ?_)
 first | refine R.len S57 (h := ?_) | refine R.lenRs S57 (h := ?_) | refine R.lenV (run_lenNil S57) (h := ?_)
 rw [ic_len]
 refine R.move (h := ?_)
 refine .n0 ?_
 refine .block ?_
 refine .loop ?_
 refine LGo.loopG (σ := Nat × Int) (fun x => x.1 ≤ z.secs.length ∧ finG z (goodGo (z.secs.drop x.1) x.2) = g) (fun x => [(9, (true, .i (x.1 : Nat))), (3, (true, .i x.2))]) (fun x => [(0, .box 59 (z.c.map LV.sv))]) (fun x => z.secs.length - x.1) (0, -1) [(1, _), (7, _), (8, _)] ⟨Nat.zero_le _, e1⟩ (by repeat (first | exact trivial | refine ⟨rfl, ?_⟩)) (by repeat (first | exact trivial | refine ⟨rfl, ?_⟩)) (by repeat (first | exact trivial | refine ⟨rfl, ?_⟩)) ?_
 rintro ⟨k, last⟩ ⟨hk, hq⟩ ih
 dsimp only at * 
 refine .seq ?_
 refine .region rfl ?_
 refine R.bin (run_lss _ _ _ _ _ _) (h := ?_)
 refine .n0 ?_
 refine .seq ?_
 refine LGo.ifd (ht := fun hc => ?_) (hf := fun hc => ?_)
 ·
  have hlt : k < z.secs.length := by omega
  have hx := icA hlt
  have hd : z.secs.drop k = z.secs[k] :: z.secs.drop (k + 1) := List.drop_eq_getElem_cons hlt
  rw [hd, goodGo] at hq
  generalize z.secs[k] = n at hx hq
  clear hd
  refine .skip ?_
  refine .seq ?_
  refine .block ?_
  refine .seq ?_
  refine .region rfl ?_
  refine R.index I57 (hj := fun hg => ⟨by omega, hx⟩) (h := ?_)
  first | refine R.loadB O3 (h := ?_) | refine R.load1 O3 (h := ?_)
  refine R.assign (h := ?_)
  refine .n0 ?_
  refine .seq ?_
  refine .seq ?_
  refine .region rfl ?_
  refine R.move (h := ?_)
  refine R.move (h := ?_)
  refine R.bin (run_leq _ _ _ _ _ _) (h := ?_)
  refine R.move (h := ?_)
  refine R.move (h := ?_)
  refine R.bin (run_geq _ _ _ _ _ _) (h := ?_)
  refine R.or (h := ?_)
  refine .n0 ?_
  refine LGo.ifb (ht := fun hc2 => ?_) (hf := fun hc2 => ?_)
  ·
   rw [if_pos hc2] at hq
   rw [← hq]
   refine .seq ?_
   refine .region rfl ?_
   refine R.assign (h := ?_)
   refine .n0 ?_
   exact LGo.ret (ret_T Tryd.results61 hA hmd)
  ·
   rw [if_neg (by rw [hc2]; simp)] at hq
   refine .skip ?_
   refine .region rfl ?_
   refine R.move (h := ?_)
   refine R.assign (h := ?_)
   refine .n0 ?_
   refine .inBlock ?_
   refine .region rfl ?_
   first | refine R.add (h := ?_) | refine R.addW (h := ?_)
   refine R.move (h := ?_)
   refine .n0 ?_
   refine .inLoop ?_
   exact LGo.next _ (fun o h => by have := (hA o).1 h; omega) (by omega) (ih (k + 1, n) ⟨by omega, hq⟩ (by omega)) (by repeat (first | exact trivial | refine ⟨rfl, ?_⟩)) ⟨rfl, trivial⟩
 ·
  rw [List.drop_eq_nil_of_le (show z.secs.length ≤ k by omega), goodGo] at hq
  rw [← hq]
  refine .exit rfl ?_
  refine .seq ?_
  refine .region rfl ?_
  refine R.move (h := ?_)
  refine R.bin (run_geq _ _ _ _ _ _) (h := ?_)
  refine R.move (h := ?_)
  first | refine R.field F59_1 (h := ?_) | refine R.fieldAt F59_1 (h := ?_)
  first | refine R.loadB O2 (h := ?_) | refine R.load1 O2 (h := ?_)
  refine R.bin (run_geq _ _ _ _ _ _) (h := ?_)
  refine R.and (h := ?_)
  refine R.move (h := ?_)
  first | refine R.field F59_1 (h := ?_) | refine R.fieldAt F59_1 (h := ?_)
  first | refine R.loadB O2 (h := ?_) | refine R.load1 O2 (h := ?_)
  first | refine R.field F59_2 (h := ?_) | refine R.fieldAt F59_2 (h := ?_)
  first | refine R.loadB O2 (h := ?_) | refine R.load1 O2 (h := ?_)
  refine R.bin (run_lss _ _ _ _ _ _) (h := ?_)
  refine R.and (h := ?_)
  refine R.assign (h := ?_)
  refine .n0 ?_
  exact LGo.ret (ret_T Tryd.results61 hA hmd)

theorem open_P (x : GtG) (t : Int) : PC Tryd.prog 43 [.agg (x.c.map LV.sv), .i t] (.i (openI x t)) := by
 refine ⟨LC.of_go Tryd.func43 (c := _) rfl (by kernel_rfl) (by rw [Tryd.ntmps43]; simp) rfl rfl (by simp [LO.lt, LV.lts, LV.lt, lts_sv]) (by simp) ?_⟩
 intro B hA hmd
 obtain ⟨g, e0⟩ : ∃ g, openI x t = g := ⟨_, rfl⟩
 have e1 := e0
 unfold openI at e1
 rw [e0]
 refine .seq ?_
 refine .region rfl ?_
 refine R.box (h := ?_)
 refine R.assign (h := ?_)
 refine .n0 ?_
 refine .seq ?_
 refine .block ?_
 refine .seq ?_
 refine .region rfl ?_
 refine R.move (h := ?_)
 first | refine R.field F59_1 (h := ?_) | refine R.fieldAt F59_1 (h := ?_)
 first | refine R.loadB O2 (h := ?_) | refine R.load1 O2 (h := ?_)
 refine R.bin (run_lss _ _ _ _ _ _) (h := ?_)
 refine R.assign (h := ?_)
 refine .n0 ?_
 refine LGo.ifd (ht := fun hc => ?_) (hf := fun hc => ?_)
 ·
  rw [if_pos hc] at e1
  refine .seq ?_
  refine .region rfl ?_
  refine R.assign (h := ?_)
  refine .n0 ?_
  rw [← e1]
  exact LGo.ret (ret_T Tryd.results43 hA hmd)
 ·
  rw [if_neg hc] at e1
  refine .seq ?_
  refine .region rfl ?_
  refine R.move (h := ?_)
  first | refine R.field F59_2 (h := ?_) | refine R.fieldAt F59_2 (h := ?_)
  first | refine R.loadB O2 (h := ?_) | refine R.load1 O2 (h := ?_)
  refine R.bin (run_geq _ _ _ _ _ _) (h := ?_)
  refine R.assign (h := ?_)
  refine .n0 ?_
  refine LGo.ifd (ht := fun hc2 => ?_) (hf := fun hc2 => ?_)
  ·
   rw [if_pos hc2] at e1
   refine .seq ?_
   refine .region rfl ?_
   refine R.assign (h := ?_)
   refine .n0 ?_
   rw [← e1]
   exact LGo.ret (ret_T Tryd.results43 hA hmd)
  ·
   rw [if_neg hc2] at e1
   refine .skip ?_
   refine .inBlock ?_
   refine .seq ?_
   refine .region rfl ?_
   refine R.assign (h := ?_)
   refine .n0 ?_
   rw [← e1]
   exact LGo.ret (ret_T Tryd.results43 hA hmd)

theorem notGood_P (x : GtG) (hx0 : x.secs.length ≤ 100000) : PC Tryd.prog 60 [.agg (x.c.map LV.sv)] (.b (!goodG x)) := by
 refine ⟨LC.of_go Tryd.func60 (c := _) rfl (by kernel_rfl) (by rw [Tryd.ntmps60]; simp) rfl rfl (by simp [LO.lt, LV.lts, LV.lt, lts_sv]) (by simp) ?_⟩
 intro B hA hmd
 refine .seq ?_
 refine .region rfl ?_
 refine R.box (h := ?_)
 refine R.assign (h := ?_)
 refine .n0 ?_
 refine .seq ?_
 refine .region rfl ?_
 first | refine R.loadA A59 (h := ?_) | refine R.loadN A59 (h := ?_) | refine R.loadP A59 (h := ?_)
 refine R.callP (es := [_]) (fun _ => good_P x hx0) (h := ?_)
 refine R.not (h := ?_)
 refine R.assign (h := ?_)
 refine .n0 ?_
 exact LGo.ret (ret_T Tryd.results60 hA hmd)

/-- the place of the first element that p takes; -1: none -/
def idxP {α : Type} (p : α → Bool) : Nat → List α → Int
  | _, [] => -1
  | k, x :: xs => if p x = true then (k : Int) else idxP p (k + 1) xs
theorem idxP_any {α : Type} (p : α → Bool) : ∀ (xs : List α) (k : Nat), decide (0 ≤ idxP p k xs) = xs.any p
  | [], k => rfl
  | x :: xs, k => by
    rw [idxP, List.any_cons]
    cases h : p x
    · simpa using idxP_any p xs (k + 1)
    · simp

theorem idxGood_P (l : List GtG) (hl : l.length ≤ 100000) (hs : ∀ g ∈ l, g.secs.length ≤ 100000) : PC Tryd.prog 76 [.sv (.sl 3 (l.map GtG.c)), .fn (.func 60) [] []] (.i (idxP (fun x => !goodG x) 0 l)) := by
 refine ⟨LC.of_go Tryd.func76 (c := _) rfl (by kernel_rfl) (by rw [Tryd.ntmps76]; simp) rfl rfl (by simp [LO.lt, LV.lts, LV.lt, lts_sv]) (by simp) ?_⟩
 intro B hA hmd
 obtain ⟨g, e1⟩ : ∃ g, idxP (fun x => !goodG x) 0 l = g := ⟨_, rfl⟩
 rw [e1]
 refine .seq ?_
 refine .region rfl ?_
 refine R.assign (h := ?_)
 refine .n0 ?_
 refine .seq ?_
 refine .seq ?_
 refine .region rfl ?_
 refine R.move (h := ?_)
 first | refine R.len S22 (h := ?_) | refine R.lenRs S22 (h := ?_) | refine R.lenV (run_lenNil S22) (h := ?_)
 rw [List.length_map]
 refine R.move (h := ?_)
 refine .n0 ?_
 refine .block ?_
 refine .loop ?_
 refine LGo.loopG (σ := Nat) (fun x => x ≤ l.length ∧ idxP (fun x => !goodG x) x (l.drop x) = g) (fun x => [(8, (true, .i (x : Nat)))]) (fun x => []) (fun x => l.length - x) (0) [(0, _), (1, _), (7, _)] ⟨Nat.zero_le _, e1⟩ (by repeat (first | exact trivial | refine ⟨rfl, ?_⟩)) (by repeat (first | exact trivial | refine ⟨rfl, ?_⟩)) (by repeat (first | exact trivial | refine ⟨rfl, ?_⟩)) ?_
 rintro k ⟨hk, hq⟩ ih
 refine .seq ?_
 refine .region rfl ?_
 refine R.bin (run_lss _ _ _ _ _ _) (h := ?_)
 refine .n0 ?_
 refine .seq ?_
 refine LGo.ifd (ht := fun hc => ?_) (hf := fun hc => ?_)
 ·
  have hlt : k < l.length := by omega
  have hx : (l.map GtG.c)[((k : Nat) : Int).toNat]? = some l[k].c := by simp [hlt]
  have hd : l.drop k = l[k] :: l.drop (k + 1) := List.drop_eq_getElem_cons hlt
  rw [hd, idxP] at hq
  have hx0 := hs l[k] (List.getElem_mem hlt)
  generalize l[k] = x at hx hq hx0
  clear hd
  refine .skip ?_
  refine .seq ?_
  refine .block ?_
  refine .seq ?_
  refine .region rfl ?_
  refine R.move (h := ?_)
  refine R.assign (h := ?_)
  refine .n0 ?_
  refine .seq ?_
  refine .region rfl ?_
  refine R.move (h := ?_)
  refine R.move (h := ?_)
  refine R.move (h := ?_)
  refine R.index I22 (hj := fun hg => ⟨by omega, hx⟩) (h := ?_)
  first | refine R.loadA A59 (h := ?_) | refine R.loadN A59 (h := ?_) | refine R.loadP A59 (h := ?_)
  refine R.callRd (m := 0) (avs := [_]) (es := [_]) (first := []) (cap := []) (notGood_P x hx0).lc (hL := noHo) (h := ?_)
  refine .n0 ?_
  refine LGo.ifb (ht := fun hc2 => ?_) (hf := fun hc2 => ?_)
  ·
   rw [if_pos hc2] at hq
   rw [← hq]
   refine .seq ?_
   refine .region rfl ?_
   refine R.move (h := ?_)
   refine R.assign (h := ?_)
   refine .n0 ?_
   exact LGo.ret (ret_T Tryd.results76 hA hmd)
  ·
   rw [if_neg (by rw [hc2]; simp)] at hq
   refine .skip ?_
   refine .inBlock ?_
   refine .region rfl ?_
   first | refine R.add (h := ?_) | refine R.addW (h := ?_)
   refine R.move (h := ?_)
   refine .n0 ?_
   refine .inLoop ?_
   exact LGo.next _ (fun o h => by have := (hA o).1 h; omega) (by omega) (ih (k + 1) ⟨by omega, hq⟩ (by omega)) (by repeat (first | exact trivial | refine ⟨rfl, ?_⟩)) (by repeat (first | exact trivial | refine ⟨rfl, ?_⟩))
 ·
  rw [List.drop_eq_nil_of_le (show l.length ≤ k by omega), idxP] at hq
  rw [← hq]
  refine .exit rfl ?_
  refine .seq ?_
  refine .region rfl ?_
  refine R.assign (h := ?_)
  refine .n0 ?_
  exact LGo.ret (ret_T Tryd.results76 hA hmd)

theorem hasBad_P (l : List GtG) (hl : l.length ≤ 100000) (hs : ∀ g ∈ l, g.secs.length ≤ 100000) : PC Tryd.prog 59 [.sv (.sl 3 (l.map GtG.c)), .fn (.func 60) [] []] (.b (l.any fun x => !goodG x)) := by
 refine ⟨LC.of_go Tryd.func59 (c := _) rfl (by kernel_rfl) (by rw [Tryd.ntmps59]; simp) rfl rfl (by simp [LO.lt, LV.lts, LV.lt, lts_sv]) (by simp) ?_⟩
 intro B hA hmd
 refine .seq ?_
 refine .region rfl ?_
 refine R.assign (h := ?_)
 refine .n0 ?_
 refine .seq ?_
 refine .region rfl ?_
 refine R.move (h := ?_)
 refine R.move (h := ?_)
 refine R.callP (es := [_, _]) (fun _ => idxGood_P l hl hs) (h := ?_)
 refine R.bin (run_geq _ _ _ _ _ _) (h := ?_)
 rw [idxP_any]
 refine R.assign (h := ?_)
 refine .n0 ?_
 exact LGo.ret (ret_T Tryd.results59 hA hmd)

theorem checkG_P (l : List GtG) (hl : l.length ≤ 100000) (hs : ∀ g ∈ l, g.secs.length ≤ 100000) : PC Tryd.prog 40 [.sv (.sl 3 (l.map GtG.c))] (.i (checkG l)) := by
 refine ⟨LC.of_go Tryd.func40 (c := _) rfl (by kernel_rfl) (by rw [Tryd.ntmps40]; simp) rfl rfl (by simp [LO.lt, LV.lts, LV.lt, lts_sv]) (by simp) ?_⟩
 intro B hA hmd
 obtain ⟨g, e0⟩ : ∃ g, checkG l = g := ⟨_, rfl⟩
 have e1 := e0
 unfold checkG at e1
 rw [e0]
 refine .seq ?_
 refine .region rfl ?_
 refine R.assign (h := ?_)
 refine .n0 ?_
 refine .seq ?_
 refine .block ?_
 refine .seq ?_
 refine .region rfl ?_
 refine R.move (h := ?_)
 first | refine R.len S22 (h := ?_) | refine R.lenRs S22 (h := ?_) | refine R.lenV (run_lenNil S22) (h := ?_)
 rw [List.length_map]
 refine R.bin (run_gtr _ _ _ _ _ _) (h := ?_)
 refine R.assign (h := ?_)
 refine .n0 ?_
 refine LGo.ifd (ht := fun hc => ?_) (hf := fun hc => ?_)
 ·
  rw [if_pos hc] at e1
  refine .seq ?_
  refine .region rfl ?_
  refine R.assign (h := ?_)
  refine .n0 ?_
  rw [← e1]
  exact LGo.ret (ret_T Tryd.results40 hA hmd)
 ·
  rw [if_neg hc] at e1
  refine .seq ?_
  refine .region rfl ?_
  refine R.move (h := ?_)
  first | refine R.len S22 (h := ?_) | refine R.lenRs S22 (h := ?_) | refine R.lenV (run_lenNil S22) (h := ?_)
  rw [List.length_map]
  refine R.bin (run_eql _ _ _ _ _ _) (h := ?_)
  refine R.move (h := ?_)
  refine R.move (h := ?_)
  refine R.callP (es := [_, _]) (fun _ => hasBad_P l (by omega) hs) (h := ?_)
  refine R.or (h := ?_)
  refine R.assign (h := ?_)
  refine .n0 ?_
  refine LGo.ifb (ht := fun hc2 => ?_) (hf := fun hc2 => ?_)
  ·
   rw [if_pos hc2] at e1
   refine .seq ?_
   refine .region rfl ?_
   refine R.assign (h := ?_)
   refine .n0 ?_
   rw [← e1]
   exact LGo.ret (ret_T Tryd.results40 hA hmd)
  ·
   rw [if_neg (by rw [hc2]; simp)] at e1
   refine .skip ?_
   refine .inBlock ?_
   refine .seq ?_
   refine .region rfl ?_
   refine R.assign (h := ?_)
   refine .n0 ?_
   rw [← e1]
   exact LGo.ret (ret_T Tryd.results40 hA hmd)

end Go.Proofs.YtgcjjndhohellaaDoor
