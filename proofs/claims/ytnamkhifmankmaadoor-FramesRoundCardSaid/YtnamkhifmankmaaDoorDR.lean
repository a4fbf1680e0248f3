/- What the package-level tables hold, and a start that meets the condition. -/
import Derived.Test.YtnamkhifmankmaaDoorRows
import Derived.Test.YtnamkhifmankmaaDoorTie
import Derived.Test.YtnamkhifmankmaaDoorT
import Derived.LaidMore
import Derived.Lay
import Derived.MakeChecks
import Derived.Lib.LaidTab
import Derived.OpenShut
import Derived.ChangeArms
import Derived.ProofKit
set_option linter.unusedSimpArgs false
set_option linter.unusedVariables false
namespace Go.Proofs.YtnamkhifmankmaaDoor
open Go.ChangeShapes Go.WideShapes Go.Deep Go.RowKit Go.ChangeAt

def dlaid : List (String × DataW Unit) := [("bytes.ErrTooLarge", Rows.laid_bytes_ErrTooLarge)]
theorem own : ownKnob Tryd.prog.godebug = none := by kernel_rfl
theorem door_met (os : Os) (args : Array Value) : laidMetH Tryd.prog dlaid ((World.doorLaid Tryd.prog 400 os).forCall (fun _ _ => 0) ⟨#[], args, []⟩).memory :=
  laidMetH_of_parts3 (fuel := 8) (laidMet_of_run' 8 (by kernel_rfl) (by kernel_rfl)) (by kernel_rfl) (by kernel_rfl)
theorem laidVars_at {P : Program} {w : World} : ∀ {l : List (String × DataW Unit)} {ps : List MemPlace}, DataW.LaidVars P w l ps → ∀ nd ∈ l, ∃ g t cs fuel p, P.globalNamed nd.1 = some g ∧ (P.globals[g]?).map (·.type) = some t ∧ w.var? P nd.1 = some cs ∧ DataW.trod (fun _ => ()) P w 0 (fun _ => true) false fuel t cs.toList = some (nd.2, p)
  | [], _, _, nd, h => by cases h
  | x :: l, ps, h, nd, hm => by
    obtain ⟨g, t, cs, fuel, p, q, h1, h2, h3, h4, h5, _⟩ := h
    rcases List.mem_cons.1 hm with rfl | hm
    · exact ⟨g, t, cs, fuel, p, h1, h2, h3, h4⟩
    · exact laidVars_at h5 nd hm
/-- cells that read as a datum are these cells -/
def Reads (P : Program) (t : TypeId) (d : DataW Unit) (cells : List Value) : Prop := ∀ (w : World) (fuel : Nat) (cs : List Value) (p : List MemPlace), DataW.trod (fun _ => ()) P w 0 (fun _ => true) false fuel t cs = some (d, p) → cs = cells
theorem Reads.int {P : Program} {t : TypeId} {k : IntKind} {z : Int} (ht : P.underlying t = some (.int k)) : Reads P t (.lit (.int k z)) [.int k z] := fun w fuel cs p h => by
  obtain ⟨z', rfl, he, _⟩ := DataW.trod_int ht h
  cases he
  rfl
theorem Reads.str {P : Program} {t : TypeId} {l : List UInt8} (ht : P.underlying t = some .string) : Reads P t (.lit (.string l)) [.string ⟨l.toArray⟩] := fun w fuel cs p h => by
  obtain ⟨⟨s⟩, rfl, he, _⟩ := DataW.trod_string ht h
  cases he
  simp
theorem chunks {sz : Nat} : ∀ (cl : List (List Value)) (cs : List Value), cs.length = cl.length * sz → (∀ i c, cl[i]? = some c → (cs.drop (i * sz)).take sz = c) → cs = cl.flatten
  | [], cs, hl, _ => by simpa using hl
  | c :: cl, cs, hl, h => by
    have h0 := h 0 c rfl
    simp only [Nat.zero_mul, List.drop_zero] at h0
    simp only [List.length_cons, Nat.add_mul, Nat.one_mul] at hl
    have ih := chunks (sz := sz) cl (cs.drop sz) (by rw [List.length_drop]; omega) (fun i c hc => by
      have := h (i + 1) c (by simpa using hc)
      rw [List.drop_drop, show sz + i * sz = (i + 1) * sz from by rw [Nat.add_mul]; omega]
      exact this)
    rw [List.flatten_cons, ← ih, ← h0, List.take_append_drop]
theorem Reads.arr {P : Program} {t e : TypeId} {n sz : Nat} {ds : List (DataW Unit)} {cl : List (List Value)} (ht : P.underlying t = some (.array n e)) (hs : P.cellsOf e = sz) (hct : P.cellsOf t = n * sz) (hn : cl.length = n)
    (h : ∀ (i : Nat) (d : DataW Unit) (c : List Value), ds[i]? = some d → cl[i]? = some c → Reads P e d c) : Reads P t (.agg ds) cl.flatten := fun w fuel cs p hr => by
  obtain ⟨xs, m, _, hx, hcl, hxl, hat⟩ := DataW.trod_array ht hr
  rw [hs] at hat
  have hds : ds = xs.map (·.1) := by have := congrArg Prod.fst hx; simpa using this
  refine chunks (sz := sz) cl cs (by rw [hcl, hct, hn]) (fun i c hc => ?_)
  have hi : i < n := by have := (List.getElem?_eq_some_iff.1 hc).1; omega
  have h1 := hat i hi
  rw [List.getElem?_eq_getElem (by omega)] at h1
  exact h i xs[i].1 c (by rw [hds]; simp [hxl, hi]) hc w m _ xs[i].2 h1
theorem Reads.strct {P : Program} {t : TypeId} {fs : Array Field} {ds : List (DataW Unit)} {vs : List Value} (ht : P.underlying t = some (.struct fs)) (hone : oneCellFields P fs = true) (hC : P.cellsOf t = fs.size) (hn : vs.length = fs.size)
    (h : ∀ (j : Nat) (f : Field) (d : DataW Unit) (v : Value), fs[j]? = some f → ds[j]? = some d → vs[j]? = some v → Reads P f.type d [v]) : Reads P t (.agg ds) vs := fun w fuel cs p hr => by
  obtain ⟨xs, m, _, hx, hcl, hxl, hat⟩ := DataW.trod_struct ht hr
  have hds : ds = xs.map (·.1) := by have := congrArg Prod.fst hx; simpa using this
  apply List.ext_getElem?
  intro j
  by_cases hj : j < fs.size
  · have hfj : fs[j]? = some fs[j] := Array.getElem?_eq_getElem hj
    obtain ⟨ho, hk⟩ := hone_of hone j _ hfj
    have h1 := hat j _ hfj
    rw [ho, hk, List.getElem?_eq_getElem (by omega)] at h1
    have h2 := h j _ xs[j].1 (vs[j]'(by omega)) hfj (by rw [hds]; simp [hxl, hj]) (List.getElem?_eq_getElem (by omega)) w m _ xs[j].2 h1
    have hcj : (cs.drop j).take 1 = [cs[j]'(by omega)] := by rw [List.drop_eq_getElem_cons (by omega)]; rfl
    rw [hcj] at h2
    rw [List.getElem?_eq_getElem (by omega), List.getElem?_eq_getElem (by omega)]
    simpa using h2
  · rw [List.getElem?_eq_none (by omega), List.getElem?_eq_none (by omega)]
theorem flat1 : ∀ l : List Value, (l.map fun v => [v]).flatten = l
  | [] => rfl
  | v :: l => by rw [List.map_cons, List.flatten_cons, flat1 l]; rfl
def tabDs : DataW Unit → List (DataW Unit)
  | .agg ds => ds
  | _ => []
theorem tab_of_mem {P : Program} {W : World} {l : List (String × DataW Unit)} {name : String} {dt : DataW Unit} {cells : List Value} {g : Nat} {t : TypeId}
    (hg : P.globalNamed name = some g) (hty : (P.globals[g]?).map (·.type) = some t) (hr : Reads P t dt cells) (hm : (name, dt) ∈ l) (h : laidMet P l W) : ∃ T fr, W.heap[g]? = some (.cells cells.toArray T fr) := by
  obtain ⟨ps, hv, _⟩ := h
  obtain ⟨g', t', cs, fuel, p, hg', ht', hvar, hd⟩ := laidVars_at hv _ hm
  obtain rfl := Option.some.inj (hg.symm.trans hg')
  obtain rfl := Option.some.inj (hty.symm.trans ht')
  have hcs := hr W fuel _ p hd
  unfold World.var? at hvar
  dsimp only at hvar hg'
  rw [hg', Option.bind_some] at hvar
  cases hb : W.heap[g]? with
  | none => rw [hb] at hvar; cases hvar
  | some o =>
    rw [hb] at hvar
    cases o with
    | cells c T fr =>
      simp only [Option.some.injEq] at hvar
      subst hvar
      exact ⟨T, fr, by rw [← hcs]⟩
    | _ => cases hvar
theorem sent_of_mem {P : Program} {W : World} {l : List (String × DataW Unit)} {name nm : String} {dt d : DataW Unit} {g : Nat} {t : TypeId} {ms : Array (String × TypeId)}
    (hg : P.globalNamed name = some g) (hty : (P.globals[g]?).map (·.type) = some t) (hi : P.underlying t = some (.interface ms)) (hd : dt = .iface nm d) (hm : (name, dt) ∈ l) (h : laidMet P l W) : ∃ T fr tp p, W.heap[g]? = some (.cells #[.iface tp p] T fr) := by
  subst hd
  obtain ⟨ps, hv, _⟩ := h
  obtain ⟨g', t', cs, fuel, p, hg', ht', hvar, hd⟩ := laidVars_at hv _ hm
  obtain rfl := Option.some.inj (hg.symm.trans hg')
  obtain rfl := Option.some.inj (hty.symm.trans ht')
  obtain ⟨_, u, v, hcs, _⟩ := iface_of_trod hi hd
  unfold World.var? at hvar
  dsimp only at hvar hg'
  rw [hg', Option.bind_some] at hvar
  cases hb : W.heap[g]? with
  | none => rw [hb] at hvar; cases hvar
  | some o =>
    rw [hb] at hvar
    cases o with
    | cells c T fr =>
      simp only [Option.some.injEq] at hvar
      subst hvar
      exact ⟨T, fr, u, v, by rw [← hcs]⟩
    | _ => cases hvar
theorem amb_of_laid {W : World} (h : laidMetH Tryd.prog dlaid W) : Amb (cx0 W).pr W := by
  rw [MakeChecks.laidMetH_plain _ _ _ (by kernel_rfl)] at h
  refine Amb.of_heap (fun p hp => ?_)
  simp [tabs] at hp
end Go.Proofs.YtnamkhifmankmaaDoor
