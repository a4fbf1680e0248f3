/- fields: needs, missing, bytes of a number and of a field. -/
import Derived.Test.YtcobkjognpjikaaGreatDoorFA
set_option linter.unusedSimpArgs false
set_option linter.unusedVariables false
namespace Go.Proofs.YtcobkjognpjikaaGreatDoor



def lacks (fs : List Fld) (r : Rule) : Bool := r.must && !(fldHas r.tag fs)
def missing (rs : List Rule) (n : Nat) (fs : List Fld) : Bool := (rs.take n).any (lacks fs)

def lawRules : List Rule := [⟨1, 1, 0, 300, true⟩, ⟨4, 2, 1, 3, false⟩]



def needs (rs : List Rule) : List Int := (rs.filter (fun r => r.must)).map Rule.tag
def tagsL (l : List Int) : List (List LV) := l.map fun t => [.i t]
def tagsC (l : List Int) : List (List SV) := l.map fun t => [.val (.int .i64 t)]
theorem tagsL_app (l : List Int) (t : Int) : tagsL (l ++ [t]) = tagsL l ++ [[.i t]] := by simp [tagsL]
theorem needs_take (rs : List Rule) (k : Nat) (h : k < rs.length) : needs (rs.take (k + 1)) = needs (rs.take k) ++ (if rs[k].must = true then [rs[k].tag] else []) := by
  simp only [needs, List.take_succ_eq_append_getElem h, List.filter_append, List.map_append]
  congr 1
  by_cases hm : rs[k].must = true <;> simp [hm]
theorem needs_len (rs : List Rule) : (needs rs).length ≤ rs.length := by
  simp only [needs, List.length_map]; exact List.length_filter_le _ _

theorem needs_P (rs : List Rule) (hrs : rs.length ≤ 100) : PC Tryz.prog 66 [.sv (.sl 5 (rs.map Rule.c))] (.sv (.sl 1 (tagsC (needs rs)))) := by
  refine ⟨LC.of_go Tryz.func66 (c := _) rfl (by kernel_rfl) (by rw [Tryz.ntmps66]; simp) rfl rfl (by simp) (by simp) ?_⟩
  intro B hA hmd
  refine LGo.seq ?_
  refine LGo.region rfl ?_
  refine R.assign (h := ?_)
  refine Reg.nil ⟨fun h => (by cases h), ?_⟩
  refine LGo.seq ?_
  refine LGo.region rfl ?_
  refine R.assign (h := ?_)
  refine Reg.nil ⟨fun h => (by cases h), ?_⟩
  refine LGo.seq ?_
  refine LGo.seq ?_
  refine LGo.region rfl ?_
  refine R.move (h := ?_)
  first | refine R.len S72 (h := ?_) | refine R.lenV (run_lenNil S72) (h := ?_)
  rw [List.length_map]
  refine R.move (h := ?_)
  refine Reg.nil ⟨fun h => (by cases h), ?_⟩
  refine LGo.block ?_
  refine LGo.loop ?_
  refine LGo.nilRow 3 3 1 (by rfl) ?_
  refine LGo.keep [(3, (true, .ref 0)), (6, (true, .sv (.sl 5 (rs.map Rule.c)))), (7, (true, .i rs.length)), (8, (true, .i (0 : Nat)))] [(0, .row 3 1 (tagsL (needs (rs.take 0))))] ⟨rfl, rfl, rfl, rfl, trivial⟩ ⟨rfl, trivial⟩ ?_
  refine LGo.loopK (σ := Nat) (fun k => k ≤ rs.length) (fun k => [(3, (true, .ref 0)), (6, (true, .sv (.sl 5 (rs.map Rule.c)))), (7, (true, .i rs.length)), (8, (true, .i k))]) (fun k => [(0, .row 3 1 (tagsL (needs (rs.take k))))]) (fun _ => 1) (fun k => rs.length - k) 0 (by simp) ?_
  rintro k hk ih
  refine LGo.seq ?_
  refine LGo.region rfl ?_
  refine R.bin (run_lss _ _ _ _ _ _) (h := ?_)
  refine Reg.nil ⟨fun h => (by cases h), ?_⟩
  refine LGo.seq ?_
  refine LGo.ifd (ht := fun hc => ?_) (hf := fun hc => ?_)
  · -- then
    have hlt : k < rs.length := by omega
    have hx : (rs.map Rule.c)[((k : Nat) : Int).toNat]? = some (rs[k].c) := by simp [hlt]
    have hnt := needs_take rs k hlt
    have hnl := needs_len (rs.take k)
    rw [List.length_take] at hnl
    generalize rs[k] = x at hx hnt
    refine LGo.skip ?_
    refine LGo.seq ?_
    refine LGo.block ?_
    refine LGo.seq ?_
    refine LGo.region rfl ?_
    refine R.index I72 (hj := fun _ => ⟨by omega, hx⟩) (h := ?_)
    first | refine R.loadA A88 (h := ?_) | refine R.loadN A88 (h := ?_)
    refine R.alloc Z88 (h := ?_)
    refine R.storeA A88 (h := ?_)
    refine Reg.nil ⟨fun h => (by cases h), ?_⟩
    refine LGo.seq ?_
    refine LGo.region rfl ?_
    first | refine R.field F88_4 (h := ?_) | refine R.fieldAt F88_4 (h := ?_)
    first | refine R.loadB O4 (h := ?_) | refine R.load1 O4 (h := ?_)
    refine Reg.nil ⟨fun h => (by cases h), ?_⟩
    refine LGo.ifb (ht := fun hc2 => ?_) (hf := fun hc2 => ?_)
    · -- then
      refine LGo.region rfl ?_
      refine R.move (h := ?_)
      first | refine R.field F88_0 (h := ?_) | refine R.fieldAt F88_0 (h := ?_)
      first | refine R.loadB O3 (h := ?_) | refine R.load1 O3 (h := ?_)
      refine R.buildSlice AP81 (xs := [_]) (es := [_]) (hcs := CellsOfs.cons (CellsOf.one rfl) CellsOfs.nil) (h := ?_)
      refine R.append AP81 (xs := tagsL (needs (rs.take k))) (ys := [[.i x.tag]]) (hs := SrcOk.row Tryz.underlying81 (by simp)) (hrd := oneL (by rfl)) (hlen := by simp [tagsL]; omega) (h := ?_)
      refine R.assign (h := ?_)
      refine Reg.nil ⟨fun h => (by cases h), ?_⟩
      refine LGo.inBlock ?_
      refine LGo.region rfl ?_
      first | refine R.add (h := ?_) | refine R.addW (h := ?_)
      refine R.move (h := ?_)
      refine Reg.nil ⟨fun h => (by cases h), ?_⟩
      refine LGo.inLoop ?_
      exact LGo.turn [3] (b := 0) (fun o h => (hA o).1 h) (ih (k + 1) hlt (by omega)) ⟨rfl, rfl, rfl, rfl, trivial⟩ ⟨by rw [hnt, if_pos hc2, tagsL_app]; simp [LO.mapI, tagsL, LV.mapIs, LV.mapI], trivial⟩ (hLl := by simp [LO.lt, tagsL, LV.lts, LV.lt])
    · -- else
      refine LGo.skip ?_
      refine LGo.inBlock ?_
      refine LGo.region rfl ?_
      first | refine R.add (h := ?_) | refine R.addW (h := ?_)
      refine R.move (h := ?_)
      refine Reg.nil ⟨fun h => (by cases h), ?_⟩
      refine LGo.inLoop ?_
      exact LGo.next 1 (fun o h => by have := (hA o).1 h; omega) (by omega) (ih (k + 1) hlt (by omega)) ⟨rfl, rfl, rfl, rfl, trivial⟩ ⟨by rw [hnt, if_neg (by simp [hc2]), List.append_nil]; rfl, trivial⟩ (hLl := by simp [LO.lt, tagsL, LV.lts, LV.lt])
  · -- else
    have hk' : k = rs.length := by omega
    subst hk'
    rw [List.take_length]
    refine LGo.exit rfl ?_
    refine LGo.seq ?_
    refine LGo.region rfl ?_
    refine R.move (h := ?_)
    refine R.assign (h := ?_)
    refine Reg.nil ⟨fun h => (by cases h), ?_⟩
    refine LGo.freeze 0 (ys := tagsC (needs rs)) (by rfl) (by simp [tagsL, tagsC]) ?_
    refine LGo.drop 0 (fun o h => (hA o).1 h) (by omega) [(2, (true, .sv (.sl 1 (tagsC (needs rs)))))] [] ⟨rfl, trivial⟩ trivial (by simp [LV.lt]) (by simp) (h := ?_)
    exact LGo.ret (res1 Tryz.results66 hA hmd (by rfl) noHo (by rfl) (.inr rfl))




def odd (r : Rule) (x : Fld) : Bool := (decide (r.kind = 1) && !decide (x.txt = [])) || (decide (r.kind = 2) && !decide (x.num = 0))
def val (r : Rule) (x : Fld) : Int := if r.kind = 2 then x.txt.length else x.num
def one (r : Rule) (x : Fld) : Int := if odd r x = true then 2 else if (!within r (val r x)) = true then 7 else 0




def badR (k : Int) (prev r : Rule) : Bool := (((((decide (r.tag < 1) || decide (63 < r.tag)) || ((!decide (r.kind = 1)) && (!decide (r.kind = 2)))) || decide (r.high < r.low)) || (decide (r.kind = 2) && decide (400 < r.high))) || (decide (0 < k) && decide (r.tag ≤ prev.tag)))
def refGo (k : Nat) (prev : Rule) : List Rule → Int
  | [] => 0
  | r :: rs => if badR k prev r = true then 2 else refGo (k + 1) r rs
def refCheck (rs : List Rule) : Int := if 16 < rs.length then 3 else refGo 0 default rs
def prevOf (xs : List Rule) (k : Nat) : Rule := if k = 0 then default else xs.getD (k - 1) default




def numB : Nat → Int → List Int
  | 0, _ => []
  | k + 1, x => if x = 0 then [] else numB k (x / 256) ++ [x % 256]
def textI (l : List UInt8) : List Int := l.map fun c => (c.toNat : Int)
theorem textI_len (l : List UInt8) : (textI l).length = l.length := by simp [textI]
theorem bytesC_text (l : List UInt8) : bytesC l = ic .u8 (textI l) := bytesC_ic l
/-- how a field is written -/
def outB (r : Rule) (x : Fld) : List Int := if r.kind = 1 then [x.tag, ((numB 9 x.num).length : Int)] ++ numB 9 x.num else [x.tag, (x.txt.length : Int) / 256, (x.txt.length : Int) % 256] ++ textI x.txt
end Go.Proofs.YtcobkjognpjikaaGreatDoor
