/- A law that answers true and leaves what it was given: its row out of a contract. -/
import Derived.Test.YtmiamhegohlglaaC31
import Derived.RowKit
import Derived.RowKit2
import Derived.WideKeyArgs
set_option linter.unusedSimpArgs false
set_option linter.unusedVariables false
namespace Go.Proofs.Ytmiamhegohlglaa
open Go.ChangeShapes Go.WideShapes Go.Deep Go.RowKit Go.ChangeAt

section
variable {H : Type} {enc : TypeId × Value → H} {P : Program}

theorem args_below (hlaid : laidOutB P = true) {W W' : World} (hb : Below W.heap.size W W') {sp : Nat → Bool} : ∀ {ts : List TypeId} {vs : List Value} {ds : List (DataW H)} {ps : List MemPlace},
    ts.all (fun t => P.readableRec t && decide (t < P.types.size)) = true → DataW.TrodAll enc P W 0 (fun _ => true) true ts vs ds ps → (∀ x ∈ ps, x.block < W.heap.size) → (∀ x ∈ ps, sp x.block = true) →
    DataW.TrodAll enc P W' 0 sp true ts vs ds ps
  | [], [], [], _, _, h, _, _ => h
  | [], _ :: _, _, _, _, h, _, _ => h.elim
  | [], [], _ :: _, _, _, h, _, _ => h.elim
  | _ :: _, [], _, _, _, h, _, _ => h.elim
  | _ :: _, _ :: _, [], _, _, h, _, _ => h.elim
  | t :: ts, v :: vs, d :: ds, _, hr, ⟨p, q, h1, h2, e⟩, hlt, hs => by
    simp only [List.all_cons, Bool.and_eq_true, decide_eq_true_eq] at hr
    refine ⟨p, q, WideElems.Trod_stays hlaid hr.1.1 hr.1.2 h1 (fun x hx => hb.same (hlt x ?_)) (fun x hx => hs x ?_), args_below hlaid hb hr.2 h2 (fun x hx => hlt x ?_) (fun x hx => hs x ?_), e⟩
    all_goals rw [e]; simp [hx]

theorem row_true {F : FuncId} {f : Func} {s : ChangeSpec} {apart fresh handsOn again : Bool} {tb : TypeId} {W : World} {args : Array Value} {ds gs : List (DataW H)} {before : List MemPlace}
    (hlaid : laidOutB P = true) (hread : f.params.toList.all (fun t => P.readableRec t && decide (t < P.types.size)) = true) (hvars : s.vars = []) (hres : f.resultTypes = #[tb]) (hb : P.underlying tb = some .bool)
    (hspec : (s.fn H ds).results = [.lit (.bool true)] ∧ (s.fn H ds).args = ds ∧ (s.fn H ds).vars = [])
    (hW : DataW.Whole enc P f.params.toList s.vars apart W args.toList ds gs before)
    (hcall : Calls P F args W fun e w' => e = .returned (.bool true) ∧ Below W.heap.size W w') :
    Calls P F args W fun e W' => ∃ v, e = .returned v ∧ s.post enc P f apart fresh handsOn again W args v W' := by
  have hW' := hW
  obtain ⟨p, q, hA, hV, rfl, hfz, hnd⟩ := hW
  rw [hvars] at hV
  obtain ⟨rfl, rfl⟩ := trodVars_none hV
  refine hcall.mono fun e W' ⟨he, hB⟩ => ⟨.bool true, he, ?_⟩
  refine post_of_below (pa := p) (pv := []) hW' (fun b sp hd => ?_) (fun sp hs => ?_) (fun sp hs => ?_) rfl hB (ok_one hres rfl (okWide_bool_mk hb true))
  · rw [List.append_nil, hspec.1, hres]
    exact trodAll_cons_mk (shut_bool hb true) trodAll_mk0
  · rw [List.append_nil, hspec.2.1]
    exact args_below hlaid hB hread hA (fun x hx => hW'.lt x (by simp [hx])) (fun x hx => hs x (by simp [hx]))
  · rw [hvars, List.append_nil, hspec.2.2]
    rfl
end

theorem Vs_cons {cx : Cx} {w : World} {c : LV} {cs : List LV} {x : Value} {xs : List Value} (h : V cx w c x) (hs : Vs cx w cs xs) : Vs cx w (c :: cs) (x :: xs) := by
  simp only [Vs]
  exact ⟨x, xs, rfl, h, hs⟩
theorem Vs_nil {cx : Cx} {w : World} : Vs cx w [] [] := by simp [Vs]

theorem PC.runT {P : Program} {f : FuncId} {lvs : List LV} (h : PC P f lvs (.b true)) {w : World} {vs : List Value} (hv : Vs (cx0 w) w lvs vs) :
    Calls P f vs.toArray w fun e w' => e = .returned (.bool true) ∧ Below w.heap.size w w' :=
  (h.run hv).mono fun e w' ⟨v, cx', he, hb, hvo⟩ => by
    have hvo' : v = .bool true := by simpa [V, VS] using hvo
    subst hvo'
    exact ⟨he, hb⟩

section
variable {H : Type} {enc : TypeId × Value → H} {P : Program} {w : World}
theorem cells_slice (a : Option Addr) (l c : Nat) : (Value.slice a l c).cells.toList = [Value.slice a l c] := rfl
/-- a slice argument -/
theorem Rd.argSl {t e : TypeId} {S : SV → Prop} {base : Nat} (h : Rd enc P w t (fun ss => ∃ s, ss = [s] ∧ S s)) (ht : P.underlying t = some (.slice e)) {v : Value} {d : DataW H} {p : List MemPlace}
    (hok : Value.okWide P w .any base t v) (hv : DataW.Trod enc P w 0 (fun _ => true) true t v d p) : ∃ s, S s ∧ V (cx0 w) w (.sv s) v := by
  obtain ⟨a, l, c, rfl⟩ := okWide_slice ht hok
  obtain ⟨s, h1, h2⟩ := h.arg1 hv rfl
  exact ⟨s, h1, by simp only [V]; exact h2⟩
theorem Rd.argInt {t : TypeId} {k : IntKind} {base : Nat} (ht : P.underlying t = some (.int k)) {v : Value} {d : DataW H} {p : List MemPlace}
    (hok : Value.okWide P w .any base t v) (hv : DataW.Trod enc P w 0 (fun _ => true) true t v d p) : ∃ n, k.min ≤ n ∧ n ≤ k.max ∧ V (cx0 w) w (.v (.int k n)) v := by
  obtain ⟨n, rfl⟩ := okWide_int ht hok
  obtain ⟨s, ⟨m, rfl, h1⟩, h2⟩ := (Rd.int (enc := enc) (w := w) ht).arg1 hv rfl
  have : n = m := by simpa [VS] using h2
  subst this
  exact ⟨n, h1.1, h1.2, by simp [V, VS]⟩
theorem VSs_agg {cx : Cx} {w : World} : ∀ {ss : List SV} {vs : List Value}, ss.length = vs.length → (∀ (j : Nat) (s : SV) (v : Value), ss[j]? = some s → vs[j]? = some v → V cx w (.sv s) v) → Vs cx w (ss.map LV.sv) vs
  | [], [], _, _ => by simp [Vs]
  | [], _ :: _, h, _ => by simp at h
  | _ :: _, [], h, _ => by simp at h
  | s :: ss, v :: vs, h, hv => by
    simp only [List.map_cons, Vs]
    exact ⟨v, vs, rfl, hv 0 s v rfl rfl, VSs_agg (by simpa using h) (fun j s' v' h1 h2 => hv (j + 1) s' v' (by simpa using h1) (by simpa using h2))⟩
/-- a struct argument -/
theorem Rd.argAgg {t : TypeId} {fs : Array Field} {Sh : List SV → Prop} {base : Nat} (h : Rd enc P w t Sh) (ht : P.underlying t = some (.struct fs)) {v : Value} {d : DataW H} {p : List MemPlace}
    (hok : Value.okWide P w .any base t v) (hv : DataW.Trod enc P w 0 (fun _ => true) true t v d p) : ∃ ss, Sh ss ∧ V (cx0 w) w (.agg (ss.map LV.sv)) v := by
  obtain ⟨cs, rfl, _⟩ := okWide_struct ht hok
  obtain ⟨n, hn⟩ := hv
  obtain ⟨ss, h1, h2, h3⟩ := h n _ _ hn
  refine ⟨ss, h1, ?_⟩
  have e : (Value.agg cs).cells.toList = cs.toList := rfl
  rw [e] at h2 h3
  simp only [V]
  exact ⟨cs.toList, by simp, VSs_agg h2 (fun j s x hs hx => by simp only [V]; exact (h3 j s x hs hx).1)⟩
end

end Go.Proofs.Ytmiamhegohlglaa
