/- Texts of this claim, merged (GA to DR); no condition. -/
import Derived.Test.YteccglgbkehdeaaGreatDoorPC3
import Derived.Test.YteccglgbkehdeaaGreatDoorRows
import Derived.Test.YteccglgbkehdeaaGreatDoorTie
import Derived.LaidMore
import Derived.Lay
import Derived.MakeChecks
import Derived.Lib.LaidTab
import Derived.OpenShut
import Derived.ChangeArms
import Derived.ProofKit
/- gates: what is a gate, when it is open; the check of gates. -/
set_option linter.unusedSimpArgs false
set_option linter.unusedVariables false
namespace Go.Proofs.YteccglgbkehdeaaGreatDoor

/-- a gate: its sections, from when and until when it is open -/
structure GtG where
  secs : List Int
  fr : Int
  to : Int
  deriving DecidableEq
instance : Inhabited GtG := ⟨⟨[], 0, 0⟩⟩
/-- an entry -/
structure GtE where
  seat : Int
  serial : Int
  epoch : Int
  gate : Int
  time : Int
  deriving DecidableEq
instance : Inhabited GtE := ⟨⟨0, 0, 0, 0, 0⟩⟩
structure GtS where
  gates : List GtG
  ents : List GtE
  deriving DecidableEq
/-- a call -/
structure GtC where
  gate : Int
  seat : Int
  owner : Int
  serial : Int
  epoch : Int
  sec : Int
  now : Int
def GtG.c (g : GtG) : List SV := [.sl 1 (ic .i64 g.secs), .val (.int .i64 g.fr), .val (.int .i64 g.to)]
def GtE.c (x : GtE) : List SV := [.val (.int .u32 x.seat), .val (.int .u64 x.serial), .val (.int .u64 x.epoch), .val (.int .i64 x.gate), .val (.int .i64 x.time)]
def GtS.c (s : GtS) : List SV := [.sl 3 (s.gates.map GtG.c), .sl 5 (s.ents.map GtE.c)]
def GtC.c (x : GtC) : List SV := [.val (.int .i64 x.gate), .val (.int .u32 x.seat), .val (.int .u32 x.owner), .val (.int .u64 x.serial), .val (.int .u64 x.epoch), .val (.int .i64 x.sec), .val (.int .i64 x.now)]
def S64 (n : Int) : Prop := -9223372036854775808 ≤ n ∧ n ≤ 9223372036854775807
def U64 (n : Int) : Prop := 0 ≤ n ∧ n < 18446744073709551616
def U32 (n : Int) : Prop := 0 ≤ n ∧ n < 4294967296
def GtG.ok (g : GtG) : Prop := g.secs.length ≤ maxLen ∧ (∀ n ∈ g.secs, S64 n) ∧ S64 g.fr ∧ S64 g.to
def GtE.ok (x : GtE) : Prop := U32 x.seat ∧ U64 x.serial ∧ U64 x.epoch ∧ S64 x.gate ∧ S64 x.time
def GtS.ok (s : GtS) : Prop := s.gates.length ≤ maxLen ∧ (∀ g ∈ s.gates, g.ok) ∧ s.ents.length ≤ maxLen ∧ ∀ x ∈ s.ents, x.ok
def GtC.ok (x : GtC) : Prop := S64 x.gate ∧ U32 x.seat ∧ U32 x.owner ∧ U64 x.serial ∧ U64 x.epoch ∧ S64 x.sec ∧ S64 x.now
def GtS.zero : GtS := ⟨[], []⟩
def GtE.zero : GtE := ⟨0, 0, 0, 0, 0⟩
/-- sections ascend, below 8: the last of them -/
def goodGo : List Int → Int → Option Int
  | [], last => some last
  | n :: r, last => if (decide (n ≤ last) || decide (8 ≤ n)) = true then none else goodGo r n
def goodG (g : GtG) : Bool := match goodGo g.secs (-1) with
  | none => false
  | some last => (decide (0 ≤ last) && decide (0 ≤ g.fr)) && decide (g.fr < g.to)
def openI (g : GtG) (t : Int) : Int := if t < g.fr then -1 else if g.to ≤ t then 1 else 0
def checkG (l : List GtG) : Int := if 8 < (l.length : Int) then 3 else if (decide ((l.length : Int) = 0) || l.any fun g => !goodG g) = true then 6 else 0
abbrev K3 := Int × Int × Int
def GtE.key (x : GtE) : K3 := (x.seat, x.epoch, x.serial)
def GtC.key (x : GtC) : K3 := (x.seat, x.epoch, x.serial)
def K3.v (k : K3) : List Value := [.int .u64 k.1, .int .u64 k.2.1, .int .u64 k.2.2]
def cmpI (x y : Int) : Int := if x < y then -1 else if y < x then 1 else 0
def cmpK (a b : K3) : Int := if cmpI a.1 b.1 = 0 then (if cmpI a.2.1 b.2.1 = 0 then cmpI a.2.2 b.2.2 else cmpI a.2.1 b.2.1) else cmpI a.1 b.1
/-- the order of keys -/
def ltK (a b : K3) : Prop := a.1 < b.1 ∨ a.1 = b.1 ∧ (a.2.1 < b.2.1 ∨ a.2.1 = b.2.1 ∧ a.2.2 < b.2.2)
/-- what is wrong with an entry behind another one -/
def badE (gs : List GtG) (p : Option GtE) (x : GtE) : Bool :=
  ((decide (x.gate < 0) || decide ((gs.length : Int) ≤ x.gate)) || !decide (openI (gs.getD x.gate.toNat default) x.time = 0)) || (match p with | none => false | some y => decide (0 ≤ cmpK y.key x.key))
def badGo (gs : List GtG) : Option GtE → List GtE → Bool
  | _, [] => false
  | p, x :: r => badE gs p x || badGo gs (some x) r
def checkGS (s : GtS) : Int := if checkG s.gates ≠ 0 then checkG s.gates else if 500 < (s.ents.length : Int) then 3 else if badGo s.gates none s.ents = true then 6 else 0
def GtC.ent (c : GtC) : GtE := ⟨c.seat, c.serial, c.epoch, c.gate, c.now⟩
def hasK (k : K3) (l : List GtE) : Bool := l.any fun x => decide (x.key = k)
/-- why a call is refused; 0: it is not -/
def refuse (gs : List GtG) (es : List GtE) (c : GtC) : Int :=
  if (decide (c.gate < 0) || decide ((gs.length : Int) ≤ c.gate)) = true then 4 else
  if (!(gs.getD c.gate.toNat default).secs.contains c.sec) = true then 15 else
  if openI (gs.getD c.gate.toNat default) c.now < 0 then 18 else
  if 0 < openI (gs.getD c.gate.toNat default) c.now then 13 else
  if hasK c.key es = true then 8 else
  if (es.length : Int) = 500 then 5 else 0
def insE (x : GtE) : List GtE → List GtE
  | [] => [x]
  | y :: l => if cmpK y.key x.key < 0 then y :: insE x l else x :: y :: l
def enterS (s : GtS) (c : GtC) : GtS × Int := if checkGS s ≠ 0 then (GtS.zero, checkGS s) else if refuse s.gates s.ents c ≠ 0 then (GtS.zero, refuse s.gates s.ents c) else (⟨s.gates, insE c.ent s.ents⟩, 0)
def findS (s : GtS) (k : K3) : GtE × Int := if checkGS s ≠ 0 then (GtE.zero, checkGS s) else match s.ents.find? (fun x => decide (x.key = k)) with
  | none => (GtE.zero, 4)
  | some x => (x, 0)
def countE (g : Int) (l : List GtE) : Int := l.foldl (fun n x => if x.gate = g then n + 1 else n) 0
def countS (s : GtS) (g : Int) : Int × Int := if checkGS s ≠ 0 then (0, checkGS s) else if (decide (g < 0) || decide ((s.gates.length : Int) ≤ g)) = true then (0, 4) else (countE g s.ents, 0)
def newS (l : List GtG) : GtS × Int := if checkG l ≠ 0 then (GtS.zero, checkG l) else (⟨l, []⟩, 0)

def finG (x : GtG) : Option Int → Bool
  | none => false
  | some last => (decide (0 ≤ last) && decide (0 ≤ x.fr)) && decide (x.fr < x.to)
theorem goodG_fin (x : GtG) : goodG x = finG x (goodGo x.secs (-1)) := by unfold goodG finG; cases goodGo x.secs (-1) <;> rfl
theorem icA {l : List Int} {j : Nat} (h : j < l.length) : (ic .i64 l)[((j : Nat) : Int).toNat]? = some [.val (.int .i64 l[j])] := by
  rw [Int.toNat_natCast]; exact ic_get (List.getElem?_eq_getElem h)

theorem good_P (z : GtG) (hz : z.secs.length ≤ 100000) : PC Tryz.prog 182 [.agg (z.c.map LV.sv)] (.b (goodG z)) := by
 refine ⟨LC.of_go Tryz.func182 (c := _) rfl (by kernel_rfl) (by rw [Tryz.ntmps182]; simp) rfl rfl (by simp [LO.lt, LV.lts, LV.lt, lts_sv]) (by simp) ?_⟩
 intro B hA hmd
 obtain ⟨g, e0⟩ : ∃ g, goodG z = g := ⟨_, rfl⟩
 have e1 := e0
 rw [goodG_fin] at e1
 rw [e0]
 refine .seq ?_
 refine .region rfl ?_
 refine R.box (h := ?_)
 refine R.assign (h := ?_)
 refine .n0 ?_
 refine .seq ?_
 refine .region rfl ?_
 refine R.assign (h := ?_)
 refine .n0 ?_
 refine .seq ?_
 refine .seq ?_
 refine .region rfl ?_
 first | refine R.field F71_0 (h := ?_) | refine R.fieldAt F71_0 (h := ?_)
 first | refine R.loadB O65 (h := ?_) | refine R.load1 O65 (h := ?_)
 first | refine R.len S65 (h := ?_) | refine R.lenRs S65 (h := ?_) | refine R.lenV (run_lenNil S65) (h := ?_)
 rw [ic_len]
 refine R.move (h := ?_)
 refine .n0 ?_
 refine .block ?_
 refine .loop ?_
 refine LGo.loopG (σ := Nat × Int) (fun x => x.1 ≤ z.secs.length ∧ finG z (goodGo (z.secs.drop x.1) x.2) = g) (fun x => [(9, (true, .i (x.1 : Nat))), (3, (true, .i x.2))]) (fun x => [(0, .box 71 (z.c.map LV.sv))]) (fun x => z.secs.length - x.1) (0, -1) [(1, _), (7, _), (8, _)] ⟨Nat.zero_le _, e1⟩ (by repeat (first | exact trivial | refine ⟨rfl, ?_⟩)) (by repeat (first | exact trivial | refine ⟨rfl, ?_⟩)) (by repeat (first | exact trivial | refine ⟨rfl, ?_⟩)) ?_
 rintro ⟨k, last⟩ ⟨hk, hq⟩ ih
 dsimp only at * 
 refine .seq ?_
 refine .region rfl ?_
 refine R.bin (run_lss _ _ _ _ _ _) (h := ?_)
 refine .n0 ?_
 refine .seq ?_
 refine LGo.ifd (ht := fun hc => ?_) (hf := fun hc => ?_)
 ·
  have hlt : k < z.secs.length := by omega
  have hx := icA hlt
  have hd : z.secs.drop k = z.secs[k] :: z.secs.drop (k + 1) := List.drop_eq_getElem_cons hlt
  rw [hd, goodGo] at hq
  generalize z.secs[k] = n at hx hq
  clear hd
  refine .skip ?_
  refine .seq ?_
  refine .block ?_
  refine .seq ?_
  refine .region rfl ?_
  refine R.index I65 (hj := fun hg => ⟨by omega, hx⟩) (h := ?_)
  first | refine R.loadB O3 (h := ?_) | refine R.load1 O3 (h := ?_)
  refine R.assign (h := ?_)
  refine .n0 ?_
  refine .seq ?_
  refine .seq ?_
  refine .region rfl ?_
  refine R.move (h := ?_)
  refine R.move (h := ?_)
  refine R.bin (run_leq _ _ _ _ _ _) (h := ?_)
  refine R.move (h := ?_)
  refine R.move (h := ?_)
  refine R.bin (run_geq _ _ _ _ _ _) (h := ?_)
  refine R.or (h := ?_)
  refine .n0 ?_
  refine LGo.ifb (ht := fun hc2 => ?_) (hf := fun hc2 => ?_)
  ·
   rw [if_pos hc2] at hq
   rw [← hq]
   refine .seq ?_
   refine .region rfl ?_
   refine R.assign (h := ?_)
   refine .n0 ?_
   exact LGo.ret (ret_T Tryz.results182 hA hmd)
  ·
   rw [if_neg (by rw [hc2]; simp)] at hq
   refine .skip ?_
   refine .region rfl ?_
   refine R.move (h := ?_)
   refine R.assign (h := ?_)
   refine .n0 ?_
   refine .inBlock ?_
   refine .region rfl ?_
   first | refine R.add (h := ?_) | refine R.addW (h := ?_)
   refine R.move (h := ?_)
   refine .n0 ?_
   refine .inLoop ?_
   exact LGo.next _ (fun o h => by have := (hA o).1 h; omega) (by omega) (ih (k + 1, n) ⟨by omega, hq⟩ (by omega)) (by repeat (first | exact trivial | refine ⟨rfl, ?_⟩)) ⟨rfl, trivial⟩
 ·
  rw [List.drop_eq_nil_of_le (show z.secs.length ≤ k by omega), goodGo] at hq
  rw [← hq]
  refine .exit rfl ?_
  refine .seq ?_
  refine .region rfl ?_
  refine R.move (h := ?_)
  refine R.bin (run_geq _ _ _ _ _ _) (h := ?_)
  refine R.move (h := ?_)
  first | refine R.field F71_1 (h := ?_) | refine R.fieldAt F71_1 (h := ?_)
  first | refine R.loadB O2 (h := ?_) | refine R.load1 O2 (h := ?_)
  refine R.bin (run_geq _ _ _ _ _ _) (h := ?_)
  refine R.and (h := ?_)
  refine R.move (h := ?_)
  first | refine R.field F71_1 (h := ?_) | refine R.fieldAt F71_1 (h := ?_)
  first | refine R.loadB O2 (h := ?_) | refine R.load1 O2 (h := ?_)
  first | refine R.field F71_2 (h := ?_) | refine R.fieldAt F71_2 (h := ?_)
  first | refine R.loadB O2 (h := ?_) | refine R.load1 O2 (h := ?_)
  refine R.bin (run_lss _ _ _ _ _ _) (h := ?_)
  refine R.and (h := ?_)
  refine R.assign (h := ?_)
  refine .n0 ?_
  exact LGo.ret (ret_T Tryz.results182 hA hmd)

theorem notGood_P (x : GtG) (hx0 : x.secs.length ≤ 100000) : PC Tryz.prog 181 [.agg (x.c.map LV.sv)] (.b (!goodG x)) := by
 refine ⟨LC.of_go Tryz.func181 (c := _) rfl (by kernel_rfl) (by rw [Tryz.ntmps181]; simp) rfl rfl (by simp [LO.lt, LV.lts, LV.lt, lts_sv]) (by simp) ?_⟩
 intro B hA hmd
 refine .seq ?_
 refine .region rfl ?_
 refine R.box (h := ?_)
 refine R.assign (h := ?_)
 refine .n0 ?_
 refine .seq ?_
 refine .region rfl ?_
 first | refine R.loadA A71 (h := ?_) | refine R.loadN A71 (h := ?_) | refine R.loadP A71 (h := ?_)
 refine R.callP (es := [_]) (fun _ => good_P x hx0) (h := ?_)
 refine R.not (h := ?_)
 refine R.assign (h := ?_)
 refine .n0 ?_
 exact LGo.ret (ret_T Tryz.results181 hA hmd)

/-- the place of the first element that p takes; -1: none -/
def idxP {α : Type} (p : α → Bool) : Nat → List α → Int
  | _, [] => -1
  | k, x :: xs => if p x = true then (k : Int) else idxP p (k + 1) xs
theorem idxP_any {α : Type} (p : α → Bool) : ∀ (xs : List α) (k : Nat), decide (0 ≤ idxP p k xs) = xs.any p
  | [], k => rfl
  | x :: xs, k => by
    rw [idxP, List.any_cons]
    cases h : p x
    · simpa using idxP_any p xs (k + 1)
    · simp

theorem idxGood_P (l : List GtG) (hl : l.length ≤ 100000) (hs : ∀ g ∈ l, g.secs.length ≤ 100000) : PC Tryz.prog 231 [.sv (.sl 3 (l.map GtG.c)), .fn (.func 181) [] []] (.i (idxP (fun x => !goodG x) 0 l)) := by
 refine ⟨LC.of_go Tryz.func231 (c := _) rfl (by kernel_rfl) (by rw [Tryz.ntmps231]; simp) rfl rfl (by simp [LO.lt, LV.lts, LV.lt, lts_sv]) (by simp) ?_⟩
 intro B hA hmd
 obtain ⟨g, e1⟩ : ∃ g, idxP (fun x => !goodG x) 0 l = g := ⟨_, rfl⟩
 rw [e1]
 refine .seq ?_
 refine .region rfl ?_
 refine R.assign (h := ?_)
 refine .n0 ?_
 refine .seq ?_
 refine .seq ?_
 refine .region rfl ?_
 refine R.move (h := ?_)
 first | refine R.len S25 (h := ?_) | refine R.lenRs S25 (h := ?_) | refine R.lenV (run_lenNil S25) (h := ?_)
 rw [List.length_map]
 refine R.move (h := ?_)
 refine .n0 ?_
 refine .block ?_
 refine .loop ?_
 refine LGo.loopG (σ := Nat) (fun x => x ≤ l.length ∧ idxP (fun x => !goodG x) x (l.drop x) = g) (fun x => [(8, (true, .i (x : Nat)))]) (fun x => []) (fun x => l.length - x) (0) [(0, _), (1, _), (7, _)] ⟨Nat.zero_le _, e1⟩ (by repeat (first | exact trivial | refine ⟨rfl, ?_⟩)) (by repeat (first | exact trivial | refine ⟨rfl, ?_⟩)) (by repeat (first | exact trivial | refine ⟨rfl, ?_⟩)) ?_
 rintro k ⟨hk, hq⟩ ih
 refine .seq ?_
 refine .region rfl ?_
 refine R.bin (run_lss _ _ _ _ _ _) (h := ?_)
 refine .n0 ?_
 refine .seq ?_
 refine LGo.ifd (ht := fun hc => ?_) (hf := fun hc => ?_)
 ·
  have hlt : k < l.length := by omega
  have hx : (l.map GtG.c)[((k : Nat) : Int).toNat]? = some l[k].c := by simp [hlt]
  have hd : l.drop k = l[k] :: l.drop (k + 1) := List.drop_eq_getElem_cons hlt
  rw [hd, idxP] at hq
  have hx0 := hs l[k] (List.getElem_mem hlt)
  generalize l[k] = x at hx hq hx0
  clear hd
  refine .skip ?_
  refine .seq ?_
  refine .block ?_
  refine .seq ?_
  refine .region rfl ?_
  refine R.move (h := ?_)
  refine R.assign (h := ?_)
  refine .n0 ?_
  refine .seq ?_
  refine .region rfl ?_
  refine R.move (h := ?_)
  refine R.move (h := ?_)
  refine R.move (h := ?_)
  refine R.index I25 (hj := fun hg => ⟨by omega, hx⟩) (h := ?_)
  first | refine R.loadA A71 (h := ?_) | refine R.loadN A71 (h := ?_) | refine R.loadP A71 (h := ?_)
  refine R.callRd (m := 0) (avs := [_]) (es := [_]) (first := []) (cap := []) (notGood_P x hx0).lc (hL := noHo) (h := ?_)
  refine .n0 ?_
  refine LGo.ifb (ht := fun hc2 => ?_) (hf := fun hc2 => ?_)
  ·
   rw [if_pos hc2] at hq
   rw [← hq]
   refine .seq ?_
   refine .region rfl ?_
   refine R.move (h := ?_)
   refine R.assign (h := ?_)
   refine .n0 ?_
   exact LGo.ret (ret_T Tryz.results231 hA hmd)
  ·
   rw [if_neg (by rw [hc2]; simp)] at hq
   refine .skip ?_
   refine .inBlock ?_
   refine .region rfl ?_
   first | refine R.add (h := ?_) | refine R.addW (h := ?_)
   refine R.move (h := ?_)
   refine .n0 ?_
   refine .inLoop ?_
   exact LGo.next _ (fun o h => by have := (hA o).1 h; omega) (by omega) (ih (k + 1) ⟨by omega, hq⟩ (by omega)) (by repeat (first | exact trivial | refine ⟨rfl, ?_⟩)) (by repeat (first | exact trivial | refine ⟨rfl, ?_⟩))
 ·
  rw [List.drop_eq_nil_of_le (show l.length ≤ k by omega), idxP] at hq
  rw [← hq]
  refine .exit rfl ?_
  refine .seq ?_
  refine .region rfl ?_
  refine R.assign (h := ?_)
  refine .n0 ?_
  exact LGo.ret (ret_T Tryz.results231 hA hmd)

theorem hasBad_P (l : List GtG) (hl : l.length ≤ 100000) (hs : ∀ g ∈ l, g.secs.length ≤ 100000) : PC Tryz.prog 180 [.sv (.sl 3 (l.map GtG.c)), .fn (.func 181) [] []] (.b (l.any fun x => !goodG x)) := by
 refine ⟨LC.of_go Tryz.func180 (c := _) rfl (by kernel_rfl) (by rw [Tryz.ntmps180]; simp) rfl rfl (by simp [LO.lt, LV.lts, LV.lt, lts_sv]) (by simp) ?_⟩
 intro B hA hmd
 refine .seq ?_
 refine .region rfl ?_
 refine R.assign (h := ?_)
 refine .n0 ?_
 refine .seq ?_
 refine .region rfl ?_
 refine R.move (h := ?_)
 refine R.move (h := ?_)
 refine R.callP (es := [_, _]) (fun _ => idxGood_P l hl hs) (h := ?_)
 refine R.bin (run_geq _ _ _ _ _ _) (h := ?_)
 rw [idxP_any]
 refine R.assign (h := ?_)
 refine .n0 ?_
 exact LGo.ret (ret_T Tryz.results180 hA hmd)

theorem checkG_P (l : List GtG) (hl : l.length ≤ 100000) (hs : ∀ g ∈ l, g.secs.length ≤ 100000) : PC Tryz.prog 111 [.sv (.sl 3 (l.map GtG.c))] (.i (checkG l)) := by
 refine ⟨LC.of_go Tryz.func111 (c := _) rfl (by kernel_rfl) (by rw [Tryz.ntmps111]; simp) rfl rfl (by simp [LO.lt, LV.lts, LV.lt, lts_sv]) (by simp) ?_⟩
 intro B hA hmd
 obtain ⟨g, e0⟩ : ∃ g, checkG l = g := ⟨_, rfl⟩
 have e1 := e0
 unfold checkG at e1
 rw [e0]
 refine .seq ?_
 refine .region rfl ?_
 refine R.assign (h := ?_)
 refine .n0 ?_
 refine .seq ?_
 refine .block ?_
 refine .seq ?_
 refine .region rfl ?_
 refine R.move (h := ?_)
 first | refine R.len S25 (h := ?_) | refine R.lenRs S25 (h := ?_) | refine R.lenV (run_lenNil S25) (h := ?_)
 rw [List.length_map]
 refine R.bin (run_gtr _ _ _ _ _ _) (h := ?_)
 refine R.assign (h := ?_)
 refine .n0 ?_
 refine LGo.ifd (ht := fun hc => ?_) (hf := fun hc => ?_)
 ·
  rw [if_pos hc] at e1
  refine .seq ?_
  refine .region rfl ?_
  refine R.assign (h := ?_)
  refine .n0 ?_
  rw [← e1]
  exact LGo.ret (ret_T Tryz.results111 hA hmd)
 ·
  rw [if_neg hc] at e1
  refine .seq ?_
  refine .region rfl ?_
  refine R.move (h := ?_)
  first | refine R.len S25 (h := ?_) | refine R.lenRs S25 (h := ?_) | refine R.lenV (run_lenNil S25) (h := ?_)
  rw [List.length_map]
  refine R.bin (run_eql _ _ _ _ _ _) (h := ?_)
  refine R.move (h := ?_)
  refine R.move (h := ?_)
  refine R.callP (es := [_, _]) (fun _ => hasBad_P l (by omega) hs) (h := ?_)
  refine R.or (h := ?_)
  refine R.assign (h := ?_)
  refine .n0 ?_
  refine LGo.ifb (ht := fun hc2 => ?_) (hf := fun hc2 => ?_)
  ·
   rw [if_pos hc2] at e1
   refine .seq ?_
   refine .region rfl ?_
   refine R.assign (h := ?_)
   refine .n0 ?_
   rw [← e1]
   exact LGo.ret (ret_T Tryz.results111 hA hmd)
  ·
   rw [if_neg (by rw [hc2]; simp)] at e1
   refine .skip ?_
   refine .inBlock ?_
   refine .seq ?_
   refine .region rfl ?_
   refine R.assign (h := ?_)
   refine .n0 ?_
   rw [← e1]
   exact LGo.ret (ret_T Tryz.results111 hA hmd)

end Go.Proofs.YteccglgbkehdeaaGreatDoor
/- gates: keys, and how they are compared; the check of a state. -/
set_option linter.unusedSimpArgs false
set_option linter.unusedVariables false
namespace Go.Proofs.YteccglgbkehdeaaGreatDoor

def cmpL : List Int → List Int → Int
  | [], [] => 0
  | [], _ :: _ => -1
  | _ :: _, [] => 1
  | a :: l, b :: m => if cmpI a b = 0 then cmpL l m else cmpI a b
end Go.Proofs.YteccglgbkehdeaaGreatDoor
/- gates: copies of slices; a copy of a state. -/
set_option linter.unusedSimpArgs false
set_option linter.unusedVariables false
namespace Go.Proofs.YteccglgbkehdeaaGreatDoor

theorem cloneG (xs : List (List SV)) (hsz : ∀ e ∈ xs, e.length = 3) (hl : xs.length ≤ 100000) : LC Tryz.prog 162 0 [.sv (.sl 3 xs)] [] (.ref 0) [(0, .rs 71 3 xs)] 1 := by
 refine LC.of_go Tryz.func162 (c := _) rfl (by kernel_rfl) (by rw [Tryz.ntmps162]; simp) rfl rfl (by simp [LO.lt, LV.lts, LV.lt, lts_sv]) (by simp) ?_
 intro B hA hmd
 refine .seq ?_
 refine .region rfl ?_
 refine R.assign (h := ?_)
 refine .n0 ?_
 refine .seq ?_
 refine .seq ?_
 refine .region rfl ?_
 refine R.move (h := ?_)
 rcases Classical.em (xs = []) with h0 | h0
 ·
  refine R.nilU (hT := Tryz.underlying25) (h := ?_)
  refine .n0 ?_
  refine LGo.ifU (ht := ?_) (hf := ?_)
  ·
   refine .seq ?_
   refine .region rfl ?_
   refine R.assign (h := ?_)
   refine .n0 ?_
   subst h0
   refine LGo.nilRs 2 71 3 (h := ?_)
   exact LGo.ret (FnPost.finI [0] (res_T Tryz.results162) hA hmd)
  ·
   refine .skip ?_
   refine .seq ?_
   refine .region rfl ?_
   refine R.buildSliceR AP25 (xs := []) (es := []) (hcs := CellsOfs.nil) (h := ?_)
   refine R.move (h := ?_)
   refine R.appendS AP25 (hs := SrcOk.sl Tryz.underlying25 (hsz)) (hlen := by simp; omega) (h := ?_)
   refine R.assign (h := ?_)
   refine .n0 ?_
   exact LGo.ret (FnPost.finI [1] (res_T Tryz.results162) hA hmd)
 ·
  refine R.nilF false (hT := Tryz.underlying25) (hne := fun _ => h0) (h := ?_)
  refine .n0 ?_
  refine LGo.ifb (ht := fun hc2 => by simp at hc2) (hf := fun hc2 => ?_)
  refine .skip ?_
  refine .seq ?_
  refine .region rfl ?_
  refine R.buildSliceR AP25 (xs := []) (es := []) (hcs := CellsOfs.nil) (h := ?_)
  refine R.move (h := ?_)
  refine R.appendS AP25 (hs := SrcOk.sl Tryz.underlying25 (hsz)) (hlen := by simp; omega) (h := ?_)
  refine R.assign (h := ?_)
  refine .n0 ?_
  exact LGo.ret (FnPost.finI [1] (res_T Tryz.results162) hA hmd)

theorem cloneE (xs : List (List SV)) (hsz : ∀ e ∈ xs, e.length = 5) (hl : xs.length ≤ 100000) : LC Tryz.prog 183 0 [.sv (.sl 5 xs)] [] (.ref 0) [(0, .rs 178 5 xs)] 1 := by
 refine LC.of_go Tryz.func183 (c := _) rfl (by kernel_rfl) (by rw [Tryz.ntmps183]; simp) rfl rfl (by simp [LO.lt, LV.lts, LV.lt, lts_sv]) (by simp) ?_
 intro B hA hmd
 refine .seq ?_
 refine .region rfl ?_
 refine R.assign (h := ?_)
 refine .n0 ?_
 refine .seq ?_
 refine .seq ?_
 refine .region rfl ?_
 refine R.move (h := ?_)
 rcases Classical.em (xs = []) with h0 | h0
 ·
  refine R.nilU (hT := Tryz.underlying97) (h := ?_)
  refine .n0 ?_
  refine LGo.ifU (ht := ?_) (hf := ?_)
  ·
   refine .seq ?_
   refine .region rfl ?_
   refine R.assign (h := ?_)
   refine .n0 ?_
   subst h0
   refine LGo.nilRs 2 178 5 (h := ?_)
   exact LGo.ret (FnPost.finI [0] (res_T Tryz.results183) hA hmd)
  ·
   refine .skip ?_
   refine .seq ?_
   refine .region rfl ?_
   refine R.buildSliceR AP97 (xs := []) (es := []) (hcs := CellsOfs.nil) (h := ?_)
   refine R.move (h := ?_)
   refine R.appendS AP97 (hs := SrcOk.sl Tryz.underlying97 (hsz)) (hlen := by simp; omega) (h := ?_)
   refine R.assign (h := ?_)
   refine .n0 ?_
   exact LGo.ret (FnPost.finI [1] (res_T Tryz.results183) hA hmd)
 ·
  refine R.nilF false (hT := Tryz.underlying97) (hne := fun _ => h0) (h := ?_)
  refine .n0 ?_
  refine LGo.ifb (ht := fun hc2 => by simp at hc2) (hf := fun hc2 => ?_)
  refine .skip ?_
  refine .seq ?_
  refine .region rfl ?_
  refine R.buildSliceR AP97 (xs := []) (es := []) (hcs := CellsOfs.nil) (h := ?_)
  refine R.move (h := ?_)
  refine R.appendS AP97 (hs := SrcOk.sl Tryz.underlying97 (hsz)) (hlen := by simp; omega) (h := ?_)
  refine R.assign (h := ?_)
  refine .n0 ?_
  exact LGo.ret (FnPost.finI [1] (res_T Tryz.results183) hA hmd)

end Go.Proofs.YteccglgbkehdeaaGreatDoor
/- gates: a state copied; the check of a state; New. -/
set_option linter.unusedSimpArgs false
set_option linter.unusedVariables false
namespace Go.Proofs.YteccglgbkehdeaaGreatDoor

def SmG (l : List GtG) : Prop := l.length ≤ 100000 ∧ ∀ g ∈ l, g.secs.length ≤ 100000
def SmS (s : GtS) : Prop := SmG s.gates ∧ s.ents.length ≤ 100000 ∧ ∀ x ∈ s.ents, U32 x.seat
theorem set_gate (l : List GtG) (k : Nat) (g : GtG) (h : l[k]? = some g) : (l.map GtG.c).set k (g.c.set 0 (.sl 1 (ic .i64 g.secs))) = l.map GtG.c := by
  have : g.c.set 0 (.sl 1 (ic .i64 g.secs)) = g.c := rfl
  rw [this, ← List.map_set]
  congr 1
  obtain ⟨hk, rfl⟩ := List.getElem?_eq_some_iff.1 h
  exact List.set_getElem_self hk
theorem gt_ones (l : List GtG) : ∀ e ∈ l.map GtG.c, e.length = 3 := by intro e he; obtain ⟨g, _, rfl⟩ := List.mem_map.1 he; rfl
theorem ge_ones (l : List GtE) : ∀ e ∈ l.map GtE.c, e.length = 5 := by intro e he; obtain ⟨g, _, rfl⟩ := List.mem_map.1 he; rfl

theorem cloneI_P (xs : List (List SV)) (hsz : ∀ e ∈ xs, e.length = 1) (hl : xs.length ≤ 100000) : PC Tryz.prog 161 [.sv (.sl 1 xs)] (.sv (.sl 1 xs)) := by
 refine ⟨LC.of_go Tryz.func161 (c := _) rfl (by kernel_rfl) (by rw [Tryz.ntmps161]; simp) rfl rfl (by simp [LO.lt, LV.lts, LV.lt, lts_sv]) (by simp) ?_⟩
 intro B hA hmd
 refine .seq ?_
 refine .region rfl ?_
 refine R.assign (h := ?_)
 refine .n0 ?_
 refine .seq ?_
 refine .seq ?_
 refine .region rfl ?_
 refine R.move (h := ?_)
 rcases Classical.em (xs = []) with h0 | h0
 ·
  refine R.nilU (hT := Tryz.underlying65) (h := ?_)
  refine .n0 ?_
  refine LGo.ifU (ht := ?_) (hf := ?_)
  ·
   refine .seq ?_
   refine .region rfl ?_
   refine R.assign (h := ?_)
   refine .n0 ?_
   subst h0
   refine LGo.nilSl 2 1 (h := ?_)
   exact LGo.ret (ret_T Tryz.results161 hA hmd)
  ·
   refine .skip ?_
   refine .seq ?_
   refine .region rfl ?_
   refine R.buildSliceR AP65 (xs := []) (es := []) (hcs := CellsOfs.nil) (h := ?_)
   refine R.move (h := ?_)
   refine R.appendS AP65 (hs := SrcOk.sl Tryz.underlying65 (hsz)) (hlen := by simp; omega) (h := ?_)
   refine R.assign (h := ?_)
   refine .n0 ?_
   first | refine LGo.frzT 2 (h := ?_) | refine LGo.nilSl 2 1 (h := ?_) | skip
   exact LGo.ret (ret_T Tryz.results161 hA hmd)
 ·
  refine R.nilF false (hT := Tryz.underlying65) (hne := fun _ => h0) (h := ?_)
  refine .n0 ?_
  refine LGo.ifb (ht := fun hc2 => by simp at hc2) (hf := fun hc2 => ?_)
  refine .skip ?_
  refine .seq ?_
  refine .region rfl ?_
  refine R.buildSliceR AP65 (xs := []) (es := []) (hcs := CellsOfs.nil) (h := ?_)
  refine R.move (h := ?_)
  refine R.appendS AP65 (hs := SrcOk.sl Tryz.underlying65 (hsz)) (hlen := by simp; omega) (h := ?_)
  refine R.assign (h := ?_)
  refine .n0 ?_
  first | refine LGo.frzT 2 (h := ?_) | refine LGo.nilSl 2 1 (h := ?_) | skip
  exact LGo.ret (ret_T Tryz.results161 hA hmd)

theorem clone_L (s : GtS) (hs : SmS s) : LC Tryz.prog 112 0 [.agg (s.c.map LV.sv)] [] (.agg [.sv (.sl 3 (s.gates.map GtG.c)), .ref 0]) [(0, .rs 178 5 (s.ents.map GtE.c))] 1 := by
 refine LC.of_go Tryz.func112 (c := _) rfl (by kernel_rfl) (by rw [Tryz.ntmps112]; simp) rfl rfl (by simp [LO.lt, LV.lts, LV.lt, lts_sv]) (by simp) ?_
 intro B hA hmd
 obtain ⟨⟨hg1, hg2⟩, he1, he2⟩ := hs
 refine .seq ?_
 refine .region rfl ?_
 refine R.box (h := ?_)
 refine R.alloc Z99 (h := ?_)
 refine .n0 ?_
 refine .seq ?_
 refine .region rfl ?_
 first | refine R.field F99_0 (h := ?_) | refine R.fieldAt F99_0 (h := ?_)
 first | refine R.loadB O25 (h := ?_) | refine R.load1 O25 (h := ?_)
 refine R.callX (es := [_]) [] (cloneG (s.gates.map GtG.c) (gt_ones _) (by rw [List.length_map]; exact hg1)) (h := ?_)
 first | refine R.field F99_1 (h := ?_) | refine R.fieldAt F99_1 (h := ?_)
 first | refine R.loadB O97 (h := ?_) | refine R.load1 O97 (h := ?_)
 refine R.callX (es := [_]) [] (cloneE (s.ents.map GtE.c) (ge_ones _) (by rw [List.length_map]; exact he1)) (h := ?_)
 first | refine R.field F99_0 (h := ?_) | refine R.fieldAt F99_0 (h := ?_)
 refine R.storeB O25 (h := ?_)
 first | refine R.field F99_1 (h := ?_) | refine R.fieldAt F99_1 (h := ?_)
 refine R.storeB O97 (h := ?_)
 refine Reg.nil ⟨fun _ => ⟨mixedO, by rfl, by rfl⟩, ?_⟩
 refine .seq ?_
 refine .seq ?_
 refine .region rfl ?_
 first | refine R.field F99_0 (h := ?_) | refine R.fieldAt F99_0 (h := ?_)
 first | refine R.loadB O25 (h := ?_) | refine R.load1 O25 (h := ?_)
 first | refine R.len S25 (h := ?_) | refine R.lenRs S25 (h := ?_) | refine R.lenV (run_lenNil S25) (h := ?_)
 rw [List.length_map]
 refine R.move (h := ?_)
 refine .n0 ?_
 refine .block ?_
 refine .loop ?_
 refine LGo.loopG (σ := Nat) (fun x => x ≤ s.gates.length) (fun x => [(15, (true, .i (x : Nat)))]) (fun x => [(0, .box 99 [.ref 2, .ref 3]), (1, .box 99 [.v (.slice none 0 0), .v (.slice none 0 0)]), (2, .rs 71 3 (s.gates.map GtG.c)), (3, .rs 178 5 (s.ents.map GtE.c))]) (fun x => s.gates.length - x) (0) [(1, _), (2, _), (14, _)] (Nat.zero_le _) (by repeat (first | exact trivial | refine ⟨rfl, ?_⟩)) (by repeat (first | exact trivial | refine ⟨rfl, ?_⟩)) (by repeat (first | exact trivial | refine ⟨rfl, ?_⟩)) ?_
 rintro k hk ih
 refine .seq ?_
 refine .region rfl ?_
 refine R.bin (run_lss _ _ _ _ _ _) (h := ?_)
 refine .n0 ?_
 refine .seq ?_
 refine LGo.ifd (ht := fun hc => ?_) (hf := fun hc => ?_)
 ·
  have hlt : k < s.gates.length := by omega
  have hx0 : s.gates[k]? = some s.gates[k] := List.getElem?_eq_getElem hlt
  have hx : (s.gates.map GtG.c)[k]? = some s.gates[k].c := by simp [hlt]
  have hsl := hg2 s.gates[k] (List.getElem_mem hlt)
  generalize s.gates[k] = g at hx hx0 hsl
  refine .skip ?_
  refine .seq ?_
  refine .block ?_
  refine .seq ?_
  refine .region rfl ?_
  refine R.move (h := ?_)
  refine R.assign (h := ?_)
  refine .n0 ?_
  refine .region rfl ?_
  first | refine R.field F99_0 (h := ?_) | refine R.fieldAt F99_0 (h := ?_)
  first | refine R.loadB O25 (h := ?_) | refine R.load1 O25 (h := ?_)
  refine R.move (h := ?_)
  first | refine R.field F99_0 (h := ?_) | refine R.fieldAt F99_0 (h := ?_)
  first | refine R.loadB O25 (h := ?_) | refine R.load1 O25 (h := ?_)
  refine R.move (h := ?_)
  refine R.indexRs I25 (hj := fun _ => ⟨by omega, by rw [List.length_map]; omega⟩) (h := ?_)
  first | refine R.field F71_0 (h := ?_) | refine R.fieldAt F71_0 (h := ?_)
  refine R.loadRs1 O65 k 0 (ev := g.c) (hj := fun _ => ⟨hx, rfl⟩) (h := ?_)
  refine R.callP (es := [_]) (fun _ => cloneI_P (ic .i64 g.secs) (ic_one _ _) (by rw [ic_len]; exact hsl)) (h := ?_)
  refine R.indexRs I25 (hj := fun _ => ⟨by omega, by rw [List.length_map]; omega⟩) (h := ?_)
  first | refine R.field F71_0 (h := ?_) | refine R.fieldAt F71_0 (h := ?_)
  refine R.storeRs1 O65 k 0 g.c (hj := hx) (h := ?_)
  rw [set_gate s.gates k g hx0]
  refine Reg.nil ⟨fun _ => ⟨mixedO, by rfl, by rfl⟩, ?_⟩
  refine .inBlock ?_
  refine .region rfl ?_
  first | refine R.add (h := ?_) | refine R.addW (h := ?_)
  refine R.move (h := ?_)
  refine .n0 ?_
  refine .inLoop ?_
  exact LGo.next _ (fun o h => by have := (hA o).1 h; omega) (by omega) (ih (k + 1) (by omega) (by omega)) (by repeat (first | exact trivial | refine ⟨rfl, ?_⟩)) ⟨rfl, rfl, rfl, rfl, trivial⟩
 ·
  refine LGo.pack 0 0 (h := ?_)
  refine LGo.frzBx 0 (h := ?_)
  refine .exit rfl ?_
  refine .seq ?_
  refine .region rfl ?_
  first | refine R.loadA A99 (h := ?_) | refine R.loadN A99 (h := ?_) | refine R.loadP A99 (h := ?_)
  refine R.storeA A99 (h := ?_)
  refine .n0 ?_
  exact LGo.ret (FnPost.finI [3] (res_A Tryz.results112 A99) hA hmd)

end Go.Proofs.YteccglgbkehdeaaGreatDoor
/- gates: the check of a state, New. -/
set_option linter.unusedSimpArgs false
set_option linter.unusedVariables false
namespace Go.Proofs.YteccglgbkehdeaaGreatDoor

def prevE (l : List GtE) (k : Nat) : Option GtE := if k = 0 then none else some (l.getD (k - 1) default)
theorem LC.argsW {P : Program} {f : FuncId} {m k : Nat} {lvs lvs' : List LV} {out : LV} {Hi Ho : List (Nat × LO)} (h : LC P f m lvs Hi out Ho k) (hl : LV.lts m lvs' = true) (hv : ∀ cx w vs, Vs cx w lvs' vs → Vs cx w lvs vs) : LC P f m lvs' Hi out Ho k :=
  ⟨h.entr, hl, h.rng, h.hlt, h.hos, fun cx w vs hA hH ham hvs => h.go cx w vs hA hH ham (hv cx w vs hvs)⟩
theorem vs_aggNil {cx : Cx} {w : World} {x : LV} (sz : Nat) {vs : List Value} (h : Vs cx w [.agg [x, .v (.slice none 0 0)]] vs) : Vs cx w [.agg [x, .sv (.sl sz [])]] vs := by
  simp only [Vs, V] at h ⊢
  obtain ⟨v, r, rfl, ⟨us, rfl, a, r1, rfl, h1, b, r2, rfl, h2, rfl⟩, rfl⟩ := h
  refine ⟨_, _, rfl, ⟨_, rfl, _, _, rfl, h1, _, _, rfl, ?_, rfl⟩, rfl⟩
  simp only [VS] at h2 ⊢
  exact .inl ⟨.inl h2, trivial⟩
theorem cloneN_L (l : List GtG) (hl : l.length ≤ 100000) (hs : ∀ g ∈ l, g.secs.length ≤ 100000) : LC Tryz.prog 112 0 [.agg [.sv (.sl 3 (l.map GtG.c)), .v (.slice none 0 0)]] [] (.agg [.sv (.sl 3 (l.map GtG.c)), .ref 0]) [(0, .rs 178 5 [])] 1 :=
  LC.argsW (clone_L ⟨l, []⟩ ⟨⟨hl, hs⟩, by simp, by simp⟩) (by rfl) (fun _ _ _ h => vs_aggNil 5 h)

theorem newS_P (l : List GtG) (hl : l.length ≤ 100000) (hs : ∀ g ∈ l, g.secs.length ≤ 100000) : PC Tryz.prog 48 [.sv (.sl 3 (l.map GtG.c))] (.tup [.agg ((newS l).1.c.map LV.sv), .i (newS l).2]) := by
 refine ⟨LC.of_go Tryz.func48 (c := _) rfl (by kernel_rfl) (by rw [Tryz.ntmps48]; simp) rfl rfl (by simp [LO.lt, LV.lts, LV.lt, lts_sv]) (by simp) ?_⟩
 intro B hA hmd
 obtain ⟨g, e0⟩ : ∃ g, newS l = g := ⟨_, rfl⟩
 have e1 := e0
 unfold newS at e1
 rw [e0]
 refine .seq ?_
 refine .region rfl ?_
 refine R.alloc Z99 (h := ?_)
 refine R.assign (h := ?_)
 refine .n0 ?_
 refine .seq ?_
 refine .seq ?_
 refine .region rfl ?_
 refine R.move (h := ?_)
 refine R.callP (es := [_]) (fun _ => checkG_P l hl hs) (h := ?_)
 refine R.assign (h := ?_)
 refine .n0 ?_
 refine .seq ?_
 refine .region rfl ?_
 refine R.move (h := ?_)
 refine R.bin (run_neq _ _ _ _ _ _) (h := ?_)
 refine .n0 ?_
 refine LGo.ifb (ht := fun hc => ?_) (hf := fun hc => ?_)
 ·
  rw [if_pos (by simpa using hc)] at e1
  rw [← e1]
  refine .seq ?_
  refine .region rfl ?_
  refine R.build BF99 (is := []) (xs := []) (es := []) (h := ?_)
  refine R.move (h := ?_)
  refine R.storeA A99 (h := ?_)
  refine R.assign (h := ?_)
  refine .n0 ?_
  refine LGo.packNil 0 0 71 3 (h := ?_)
  refine LGo.frzBx 0 (h := ?_)
  refine LGo.packNil 0 1 178 5 (h := ?_)
  refine LGo.frzBx 0 (h := ?_)
  exact LGo.ret (ret_AT Tryz.results48 A99 hA hmd)
 ·
  rw [if_neg (by simpa using hc)] at e1
  rw [← e1]
  refine .skip ?_
  refine .seq ?_
  refine .region rfl ?_
  refine R.move (h := ?_)
  refine R.build BF99 (is := [0]) (xs := [_]) (es := [_]) (h := ?_)
  refine R.callX (es := [_]) [] (cloneN_L l hl hs) (h := ?_)
  refine R.storeA A99 (h := ?_)
  refine R.assign (h := ?_)
  refine .n0 ?_
  refine LGo.pack 0 1 (h := ?_)
  refine LGo.frzBx 0 (h := ?_)
  exact LGo.ret (ret_AT Tryz.results48 A99 hA hmd)

end Go.Proofs.YteccglgbkehdeaaGreatDoor
/- requests, the reference: a field into a request; Needs, message, Encode, Decode. -/
set_option linter.unusedSimpArgs false
set_option linter.unusedVariables false
namespace Go.Proofs.YteccglgbkehdeaaGreatDoor

def needsR (k : Int) : Bool × Bool × Int := if wordQ k = [] then (false, false, 2) else (hasQ k 3, hasQ k 4, 0)
def msgOne (r : Rq) (u : Rule) : Fld := if u.kind = 2 then ⟨u.tag, 0, txtQ r u.tag⟩ else ⟨u.tag, uw (numQ r u.tag), []⟩
def messageR (r : Rq) : List Fld := (rulesR r.kind).1.map (msgOne r)
def encR9 (r : Rq) : List UInt8 × Int := if (!decide (refCheckQ r = 0)) = true then ([], refCheckQ r) else (byt r.kind :: encBy (rulesR r.kind).1 (messageR r), 0)

end Go.Proofs.YteccglgbkehdeaaGreatDoor
/- gates, the reference: the checks, New. -/
set_option linter.unusedSimpArgs false
set_option linter.unusedVariables false
namespace Go.Proofs.YteccglgbkehdeaaGreatDoor

def lastI (l : List Int) (k : Nat) : Int := if k = 0 then -1 else l.getD (k - 1) 0
def ltR (a b : GtE) : Bool := if (!decide (a.seat = b.seat)) = true then decide (a.seat < b.seat) else if (!decide (a.epoch = b.epoch)) = true then decide (a.epoch < b.epoch) else decide (a.serial < b.serial)
end Go.Proofs.YteccglgbkehdeaaGreatDoor
/- gates, the reference: what is in a list, Find, Count, Copy, New; equal states, equal errors. -/
set_option linter.unusedSimpArgs false
set_option linter.unusedVariables false
namespace Go.Proofs.YteccglgbkehdeaaGreatDoor

def tkC (a o b e : Int) : List LV := [.v (.int .u32 a), .v (.int .u32 o), .v (.int .u64 b), .v (.int .u64 e)]

end Go.Proofs.YteccglgbkehdeaaGreatDoor
/- gates, the reference: New, Enter, Play; equal states, equal errors. -/
set_option linter.unusedSimpArgs false
set_option linter.unusedVariables false
namespace Go.Proofs.YteccglgbkehdeaaGreatDoor

def SortK (l : List GtE) : Prop := l.Pairwise fun x y => ltK x.key y.key
/-- no two entries have one key -/
def DistK (l : List GtE) : Prop := l.Pairwise fun x y => x.key ≠ y.key
def sortE (l : List GtE) : List GtE := l.foldl (fun a x => insE x a) []
/-! the check -/
/-- an entry that lies as0 it must -/
def okE (gs : List GtG) (x : GtE) : Prop := 0 ≤ x.gate ∧ x.gate < gs.length ∧ openI (gs.getD x.gate.toNat default) x.time = 0
/-! calls in a row -/
def stepD (gs : List GtG) (es : List GtE) (c : GtC) : List GtE := if refuse gs es c = 0 then es ++ [c.ent] else es
def playD (gs : List GtG) : List GtE → List GtC → List GtE × List Int
  | es, [] => (es, [])
  | es, c :: l => ((playD gs (stepD gs es c) l).1, refuse gs es c :: (playD gs (stepD gs es c) l).2)
def playS (s : GtS) (l : List GtC) : GtS × List Int × Int := if checkGS s ≠ 0 then (GtS.zero, [], checkGS s) else if 1000 < (l.length : Int) then (GtS.zero, [], 3) else (⟨s.gates, sortE (playD s.gates s.ents l).1⟩, (playD s.gates s.ents l).2, 0)
def playR (gs : List GtG) : List GtE → List GtC → List GtE × List Int
  | es, [] => (es, [])
  | es, c :: l =>
    if (enterS ⟨gs, es⟩ c).2 = 0 then ((playR gs (enterS ⟨gs, es⟩ c).1.ents l).1, (enterS ⟨gs, es⟩ c).2 :: (playR gs (enterS ⟨gs, es⟩ c).1.ents l).2)
    else ((playR gs es l).1, (enterS ⟨gs, es⟩ c).2 :: (playR gs es l).2)
/-! the laws -/
/-- the calls that were answered 0 -/
def goodC (gs : List GtG) : List GtE → List GtC → List GtC
  | _, [] => []
  | es, c :: l => if refuse gs es c = 0 then c :: goodC gs (stepD gs es c) l else goodC gs (stepD gs es c) l
/-- what makes a call good, but for the others -/
def goodP (gs : List GtG) (c : GtC) : Prop := 0 ≤ c.gate ∧ c.gate < gs.length ∧ c.sec ∈ (gs.getD c.gate.toNat default).secs ∧ openI (gs.getD c.gate.toNat default) c.now = 0
/-- how many entries are before x -/
def posE (x : GtE) : List GtE → Nat
  | [] => 0
  | y :: l => if cmpK y.key x.key < 0 then posE x l + 1 else 0
def finE (s : GtS) (c : GtC) (r : Int) : GtS × Int := if r ≠ 0 then (GtS.zero, r) else (⟨s.gates, insE c.ent s.ents⟩, 0)
end Go.Proofs.YteccglgbkehdeaaGreatDoor
/- What the package-level tables hold, and a start that meets the condition. -/
set_option linter.unusedSimpArgs false
set_option linter.unusedVariables false
namespace Go.Proofs.YteccglgbkehdeaaGreatDoor
open Go.ChangeShapes Go.WideShapes Go.Deep Go.RowKit Go.ChangeAt

def dlaid : List (String × DataW Unit) := [("math/bits.deBruijn32tab", Rows.laid_math_bits_deBruijn32tab), ("math/bits.deBruijn64tab", Rows.laid_math_bits_deBruijn64tab), ("internal/strconv.uint64pow10", Rows.laid_internal_strconv_uint64pow10), ("unicode/utf8.acceptRanges", Rows.laid_unicode_utf8_acceptRanges), ("groundling/requests.masks", Rows.laid_groundling_requests_masks), ("unicode/utf8.first", Rows.laid_unicode_utf8_first)]
theorem own : ownKnob Tryz.prog.godebug = none := by kernel_rfl
theorem door_met (os : Os) (args : Array Value) : laidMetH Tryz.prog dlaid ((World.laidAll Tryz.prog os dlaid).forCall (fun _ _ => 0) ⟨#[], args, []⟩).memory := by
  rw [MakeChecks.laidMetH_plain _ _ _ (by kernel_rfl)]; exact laidMet_laidAll _ (by kernel_rfl) (by kernel_rfl)
theorem laidVars_at {P : Program} {w : World} : ∀ {l : List (String × DataW Unit)} {ps : List MemPlace}, DataW.LaidVars P w l ps → ∀ nd ∈ l, ∃ g t cs fuel p, P.globalNamed nd.1 = some g ∧ (P.globals[g]?).map (·.type) = some t ∧ w.var? P nd.1 = some cs ∧ DataW.trod (fun _ => ()) P w 0 (fun _ => true) false fuel t cs.toList = some (nd.2, p)
  | [], _, _, nd, h => by cases h
  | x :: l, ps, h, nd, hm => by
    obtain ⟨g, t, cs, fuel, p, q, h1, h2, h3, h4, h5, _⟩ := h
    rcases List.mem_cons.1 hm with rfl | hm
    · exact ⟨g, t, cs, fuel, p, h1, h2, h3, h4⟩
    · exact laidVars_at h5 nd hm
/-- cells that read as0 a datum are these cells -/
def Reads (P : Program) (t : TypeId) (d : DataW Unit) (cells : List Value) : Prop := ∀ (w : World) (fuel : Nat) (cs : List Value) (p : List MemPlace), DataW.trod (fun _ => ()) P w 0 (fun _ => true) false fuel t cs = some (d, p) → cs = cells
theorem Reads.int {P : Program} {t : TypeId} {k : IntKind} {z : Int} (ht : P.underlying t = some (.int k)) : Reads P t (.lit (.int k z)) [.int k z] := fun w fuel cs p h => by
  obtain ⟨z', rfl, he, _⟩ := DataW.trod_int ht h
  cases he
  rfl
theorem Reads.str {P : Program} {t : TypeId} {l : List UInt8} (ht : P.underlying t = some .string) : Reads P t (.lit (.string l)) [.string ⟨l.toArray⟩] := fun w fuel cs p h => by
  obtain ⟨⟨s⟩, rfl, he, _⟩ := DataW.trod_string ht h
  cases he
  simp
theorem chunks {sz : Nat} : ∀ (cl : List (List Value)) (cs : List Value), cs.length = cl.length * sz → (∀ i c, cl[i]? = some c → (cs.drop (i * sz)).take sz = c) → cs = cl.flatten
  | [], cs, hl, _ => by simpa using hl
  | c :: cl, cs, hl, h => by
    have h0 := h 0 c rfl
    simp only [Nat.zero_mul, List.drop_zero] at h0
    simp only [List.length_cons, Nat.add_mul, Nat.one_mul] at hl
    have ih := chunks (sz := sz) cl (cs.drop sz) (by rw [List.length_drop]; omega) (fun i c hc => by
      have := h (i + 1) c (by simpa using hc)
      rw [List.drop_drop, show sz + i * sz = (i + 1) * sz from by rw [Nat.add_mul]; omega]
      exact this)
    rw [List.flatten_cons, ← ih, ← h0, List.take_append_drop]
theorem Reads.arr {P : Program} {t e : TypeId} {n sz : Nat} {ds : List (DataW Unit)} {cl : List (List Value)} (ht : P.underlying t = some (.array n e)) (hs : P.cellsOf e = sz) (hct : P.cellsOf t = n * sz) (hn : cl.length = n)
    (h : ∀ (i : Nat) (d : DataW Unit) (c : List Value), ds[i]? = some d → cl[i]? = some c → Reads P e d c) : Reads P t (.agg ds) cl.flatten := fun w fuel cs p hr => by
  obtain ⟨xs, m, _, hx, hcl, hxl, hat⟩ := DataW.trod_array ht hr
  rw [hs] at hat
  have hds : ds = xs.map (·.1) := by have := congrArg Prod.fst hx; simpa using this
  refine chunks (sz := sz) cl cs (by rw [hcl, hct, hn]) (fun i c hc => ?_)
  have hi : i < n := by have := (List.getElem?_eq_some_iff.1 hc).1; omega
  have h1 := hat i hi
  rw [List.getElem?_eq_getElem (by omega)] at h1
  exact h i xs[i].1 c (by rw [hds]; simp [hxl, hi]) hc w m _ xs[i].2 h1
theorem flat1 : ∀ l : List Value, (l.map fun v => [v]).flatten = l
  | [] => rfl
  | v :: l => by rw [List.map_cons, List.flatten_cons, flat1 l]; rfl
def tabDs : DataW Unit → List (DataW Unit)
  | .agg ds => ds
  | _ => []
theorem tab_of_mem {P : Program} {W : World} {l : List (String × DataW Unit)} {name : String} {dt : DataW Unit} {cells : List Value} {g : Nat} {t : TypeId}
    (hg : P.globalNamed name = some g) (hty : (P.globals[g]?).map (·.type) = some t) (hr : Reads P t dt cells) (hm : (name, dt) ∈ l) (h : laidMet P l W) : ∃ T fr, W.heap[g]? = some (.cells cells.toArray T fr) := by
  obtain ⟨ps, hv, _⟩ := h
  obtain ⟨g', t', cs, fuel, p, hg', ht', hvar, hd⟩ := laidVars_at hv _ hm
  obtain rfl := Option.some.inj (hg.symm.trans hg')
  obtain rfl := Option.some.inj (hty.symm.trans ht')
  have hcs := hr W fuel _ p hd
  unfold World.var? at hvar
  dsimp only at hvar hg'
  rw [hg', Option.bind_some] at hvar
  cases hb : W.heap[g]? with
  | none => rw [hb] at hvar; cases hvar
  | some o =>
    rw [hb] at hvar
    cases o with
    | cells c T fr =>
      simp only [Option.some.injEq] at hvar
      subst hvar
      exact ⟨T, fr, by rw [← hcs]⟩
    | _ => cases hvar
theorem reads3 : Reads Tryz.prog 317 Rows.laid_internal_strconv_uint64pow10 (Lib.pow10Tab.map (Value.int .u64)) := by
  have h := Reads.arr (sz := 1) (cl := (Lib.pow10Tab.map (Value.int .u64)).map fun v => [v]) (ds := tabDs Rows.laid_internal_strconv_uint64pow10) Tryz.underlying317 (by kernel_rfl) (by kernel_rfl) (by rfl) (fun i d c hd hc => by
    match i, hd, hc with
    | 0, hd, hc => cases hd; cases hc; exact Reads.int Tryz.underlying41
    | 1, hd, hc => cases hd; cases hc; exact Reads.int Tryz.underlying41
    | 2, hd, hc => cases hd; cases hc; exact Reads.int Tryz.underlying41
    | 3, hd, hc => cases hd; cases hc; exact Reads.int Tryz.underlying41
    | 4, hd, hc => cases hd; cases hc; exact Reads.int Tryz.underlying41
    | 5, hd, hc => cases hd; cases hc; exact Reads.int Tryz.underlying41
    | 6, hd, hc => cases hd; cases hc; exact Reads.int Tryz.underlying41
    | 7, hd, hc => cases hd; cases hc; exact Reads.int Tryz.underlying41
    | 8, hd, hc => cases hd; cases hc; exact Reads.int Tryz.underlying41
    | 9, hd, hc => cases hd; cases hc; exact Reads.int Tryz.underlying41
    | 10, hd, hc => cases hd; cases hc; exact Reads.int Tryz.underlying41
    | 11, hd, hc => cases hd; cases hc; exact Reads.int Tryz.underlying41
    | 12, hd, hc => cases hd; cases hc; exact Reads.int Tryz.underlying41
    | 13, hd, hc => cases hd; cases hc; exact Reads.int Tryz.underlying41
    | 14, hd, hc => cases hd; cases hc; exact Reads.int Tryz.underlying41
    | 15, hd, hc => cases hd; cases hc; exact Reads.int Tryz.underlying41
    | 16, hd, hc => cases hd; cases hc; exact Reads.int Tryz.underlying41
    | 17, hd, hc => cases hd; cases hc; exact Reads.int Tryz.underlying41
    | 18, hd, hc => cases hd; cases hc; exact Reads.int Tryz.underlying41
    | 19, hd, hc => cases hd; cases hc; exact Reads.int Tryz.underlying41
    | j + 20, hd, hc => exact absurd (show j + 20 < 20 from (List.getElem?_eq_some_iff.1 hc).1) (by omega))
  rw [flat1] at h
  exact h
theorem reads2 : Reads Tryz.prog 303 Rows.laid_groundling_requests_masks (maskTab.map (Value.int .u16)) := by
  have h := Reads.arr (sz := 1) (cl := (maskTab.map (Value.int .u16)).map fun v => [v]) (ds := tabDs Rows.laid_groundling_requests_masks) Tryz.underlying303 (by kernel_rfl) (by kernel_rfl) (by rfl) (fun i d c hd hc => by
    match i, hd, hc with
    | 0, hd, hc => cases hd; cases hc; exact Reads.int Tryz.underlying75
    | 1, hd, hc => cases hd; cases hc; exact Reads.int Tryz.underlying75
    | 2, hd, hc => cases hd; cases hc; exact Reads.int Tryz.underlying75
    | 3, hd, hc => cases hd; cases hc; exact Reads.int Tryz.underlying75
    | 4, hd, hc => cases hd; cases hc; exact Reads.int Tryz.underlying75
    | 5, hd, hc => cases hd; cases hc; exact Reads.int Tryz.underlying75
    | 6, hd, hc => cases hd; cases hc; exact Reads.int Tryz.underlying75
    | 7, hd, hc => cases hd; cases hc; exact Reads.int Tryz.underlying75
    | 8, hd, hc => cases hd; cases hc; exact Reads.int Tryz.underlying75
    | 9, hd, hc => cases hd; cases hc; exact Reads.int Tryz.underlying75
    | 10, hd, hc => cases hd; cases hc; exact Reads.int Tryz.underlying75
    | 11, hd, hc => cases hd; cases hc; exact Reads.int Tryz.underlying75
    | 12, hd, hc => cases hd; cases hc; exact Reads.int Tryz.underlying75
    | 13, hd, hc => cases hd; cases hc; exact Reads.int Tryz.underlying75
    | j + 14, hd, hc => exact absurd (show j + 14 < 14 from (List.getElem?_eq_some_iff.1 hc).1) (by omega))
  rw [flat1] at h
  exact h
theorem amb_of_laid {W : World} (h : laidMetH Tryz.prog dlaid W) : Amb (cx0 W).pr W := by
  rw [MakeChecks.laidMetH_plain _ _ _ (by kernel_rfl)] at h
  refine Amb.of_heap (fun p hp => ?_)
  have h3 := tab_of_mem (name := "internal/strconv.uint64pow10") (g := 3) (t := 317) (by kernel_rfl) (by kernel_rfl) reads3 (show _ ∈ dlaid from List.mem_cons_of_mem _ (List.mem_cons_of_mem _ (List.mem_cons_self ..))) h
  have h2 := tab_of_mem (name := "groundling/requests.masks") (g := 2) (t := 303) (by kernel_rfl) (by kernel_rfl) reads2 (show _ ∈ dlaid from List.mem_cons_of_mem _ (List.mem_cons_of_mem _ (List.mem_cons_of_mem _ (List.mem_cons_of_mem _ (List.mem_cons_self ..))))) h
  simp only [tabs, List.mem_cons, List.not_mem_nil, or_false] at hp
  rcases hp with rfl | rfl
  · exact ⟨by decide, h3⟩
  · exact ⟨by decide, h2⟩
end Go.Proofs.YteccglgbkehdeaaGreatDoor
