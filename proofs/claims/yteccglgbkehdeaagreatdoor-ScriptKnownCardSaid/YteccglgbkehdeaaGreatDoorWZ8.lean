/- ScriptKnown returns true, whatever its arguments are, and they read afterwards as0 they read before; the tables that its row lists are tied to the text. -/
import Derived.Test.YteccglgbkehdeaaGreatDoorPF7
import Derived.Test.YteccglgbkehdeaaGreatDoorJF
import Derived.Test.YteccglgbkehdeaaGreatDoorCards
import Derived.Stop.Joined
import Derived.OpenShut
set_option linter.unusedSimpArgs false
set_option linter.unusedVariables false
namespace Go.Proofs.YteccglgbkehdeaaGreatDoor
open Go.ChangeShapes Go.WideShapes Go.Deep Go.RowKit Go.ChangeAt

set_option maxRecDepth 100000 in
theorem scriptKnown_lifted (os : Os) (started : os.Started) (H : Type) (enc : TypeId × Value → H) :
    ReturnsInHanded {} Tryz.checked os 11 .any (fun w args => (Rows.scriptKnownSpec.pre enc Tryz.prog Tryz.f11 [] false w args ∧ laidMetH Tryz.prog dlaid w) ∧ sizedMet enc Tryz.prog Tryz.f11 (OpenSpec.ofChange Rows.scriptKnownSpec) false w args)
      (Rows.scriptKnownSpec.post enc Tryz.prog Tryz.f11 false true false false) := by
  refine returnsInHanded_of_change_and (C := Tryz.checked) (X := fun w _ => laidMetH Tryz.prog dlaid w) (fun _ _ _ hh h => h.of_heap hh) own started (by kernel_rfl) Tryz.func11
    (ChangeSpec.witness_shaped (enc := enc) (C := Tryz.checked) (os := os) (X := fun w _ => laidMetH Tryz.prog dlaid w) false (World.laidAll Tryz.prog os dlaid) #[] 8 (World.laidAll_os _ _ _) (World.shaped_of_ZipB (by kernel_rfl) (by kernel_rfl)) (by kernel_rfl) (by kernel_rfl) (by kernel_rfl) (door_met os _)) ?_
  intro W base args ds gs before hval0 hW _ _ hL _
  have hval : ∀ (j : Nat) t v, Tryz.f11.params[j]? = some t → args[j]? = some v → Value.okWide Tryz.prog W .any base t v := hval0
  have hW' := hW
  obtain ⟨p, q, hA0, _⟩ := hW
  have hA : DataW.TrodAll enc Tryz.prog W 0 (fun _ => true) true Tryz.f11.params.toList args.toList ds p := hA0
  rw [Tryz.params11] at hA
  obtain ⟨hargs, rfl, rfl⟩ := trodAll_nil hA
  obtain rfl : args = #[] := by cases args; simp_all
  exact row_true (by kernel_rfl) (by kernel_rfl) rfl (by kernel_rfl) Tryz.underlying4 ⟨rfl, rfl, rfl⟩ hW' ((known_W).runT (vs := []) Vs_nil (amb_of_laid hL))

theorem scriptKnown_a : (Rows.scriptKnownRow.inPlace == Tryz.prog.inPlace 11) = true := by kernel_rfl
theorem scriptKnown_b : (Rows.scriptKnownRow.unfollowed == Tryz.prog.unfollowed 11) = true := by kernel_rfl
theorem scriptKnown_c : (Rows.scriptKnownRow.recurses == Tryz.prog.recurses 11) = true := by kernel_rfl
theorem scriptKnown_d : (Rows.scriptKnownRow.named == Tryz.prog.varsNamed 11) = true := by kernel_rfl
theorem scriptKnown_closed : joinedFacts Tryz.pinned.checked.prog 11 Tryz.f11 Rows.scriptKnownSpec Rows.scriptKnownRow = true := by
  unfold joinedFacts
  exact jf_and (jf_and (jf_and (jf_and (jf_and (jf_and (jf_and (jf_and (jf_and (jf_and (jf_and (jf_and (jf_and (jf_and (jf_and (jf_and (jf_and (jf_and (jf_and (jf_and (jf_and (jf_and (jf_and (jf_and (jf_and (jf_and (jf_and (jf_and (jf_and (jf_and (jf_and ((by kernel_rfl)) jf_laidOut) jf_mapsRowed) (by kernel_rfl)) (by kernel_rfl)) (by kernel_rfl)) (by kernel_rfl)) (by kernel_rfl)) (by kernel_rfl)) scriptKnown_a) scriptKnown_b) scriptKnown_c) scriptKnown_d) (by kernel_rfl)) (by kernel_rfl)) (by kernel_rfl)) (by kernel_rfl)) (by kernel_rfl)) (by kernel_rfl)) (by kernel_rfl)) (by kernel_rfl)) (by kernel_rfl)) jf_plainKeys) (by kernel_rfl)) jf_stopsHeard) jf_mayEnter) jf_lifts) jf_make) (by kernel_rfl)) (by kernel_rfl)) (by kernel_rfl)) (by kernel_rfl)
theorem scriptKnown_inst : Tryz.f11.isInstance Tryz.pinned.checked.prog Rows.scriptKnownRow.origin Rows.scriptKnownRow.targs := of_decide_eq_true (by kernel_rfl)
theorem scriptKnown_wrap : Tryz.f11.isWrapper Tryz.pinned.checked.prog Rows.scriptKnownRow.wrapper Rows.scriptKnownRow.mainSum := by unfold Func.isWrapper; first | (rw [if_pos (by decide +kernel)]; kernel_rfl) | (rw [if_neg (by decide +kernel)]; exact ⟨rfl, rfl⟩)
theorem scriptKnown_goes : false = Rows.scriptKnownRow.goesBy Tryz.pinned.checked.prog := by kernel_rfl
theorem scriptKnown_over : Rows.ScriptKnownSaid :=
  OpenClaim.holds_of_wide 11 Tryz.f11 rfl rfl rfl rfl rfl rfl rfl ⟨rfl, rfl, rfl, rfl, rfl⟩ rfl rfl rfl rfl rfl (by kernel_rfl) Tryz.func11 scriptKnown_closed
    scriptKnown_inst scriptKnown_wrap
    (fun os started H enc _ => scriptKnown_lifted os started H enc)

/-- the statement -/
theorem scriptKnown_proved : Rows.ScriptKnownCardSaid :=
  Claim7.holds_tied_plain_at .later [] [.data, .data, .data, .data, .data, .data, .pinned] true (true, "0632f77764ee94ad568f7d291d473313d5979d30a168639bc501ae405b60197b") true
    scriptKnown_over (fun _ h => by cases h) (by kernel_rfl) (fun _ h => by cases h) scriptKnown_row_tie rfl ⟨rfl, rfl⟩ jf_mainIs rfl
    (fun f fn hf hfn => by
      obtain rfl : f = 11 := Option.some.inj ((show Tryz.prog.funcNamed "groundling/groundlinglaw30.ScriptKnown" = some 11 by kernel_rfl).symm.trans hf) |>.symm
      obtain rfl : fn = Tryz.f11 := (Option.some.inj (Tryz.func11.symm.trans hfn)).symm
      exact ⟨jf_looks, fun j t ht => by
        rw [Tryz.params11] at ht
        have hm : t ∈ [] := by simpa using Array.mem_of_getElem? ht
        have hall : ([].all fun u => !Tryz.prog.wantsStandIn u) = true := by kernel_rfl
        exact (show Tryz.prog.wantsStandIn t = false by simpa using List.all_eq_true.1 hall t hm)⟩)
    scriptKnown_goes
#print axioms scriptKnown_proved
end Go.Proofs.YteccglgbkehdeaaGreatDoor
