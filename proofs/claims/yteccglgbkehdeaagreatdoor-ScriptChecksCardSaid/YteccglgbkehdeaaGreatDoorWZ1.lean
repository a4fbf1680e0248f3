/- ScriptChecks returns true, whatever its arguments are, and they read afterwards as they read before; the tables that its row lists are tied to the text. -/
import Derived.Test.YteccglgbkehdeaaGreatDoorPB7
import Derived.Test.YteccglgbkehdeaaGreatDoorJF
import Derived.Test.YteccglgbkehdeaaGreatDoorCards
import Derived.Stop.Joined
import Derived.OpenShut
set_option linter.unusedSimpArgs false
set_option linter.unusedVariables false
namespace Go.Proofs.YteccglgbkehdeaaGreatDoor
open Go.ChangeShapes Go.WideShapes Go.Deep Go.RowKit Go.ChangeAt

set_option maxRecDepth 100000 in
theorem scriptChecks_lifted (os : Os) (started : os.Started) (H : Type) (enc : TypeId × Value → H) :
    ReturnsInHanded {} Tryz.checked os 7 .any (fun w args => (Rows.scriptChecksSpec.pre enc Tryz.prog Tryz.f7 [] false w args ∧ laidMetH Tryz.prog dlaid w) ∧ sizedMet enc Tryz.prog Tryz.f7 (OpenSpec.ofChange Rows.scriptChecksSpec) false w args)
      (Rows.scriptChecksSpec.post enc Tryz.prog Tryz.f7 false true false false) := by
  refine returnsInHanded_of_change_and (C := Tryz.checked) (X := fun w _ => laidMetH Tryz.prog dlaid w) (fun _ _ _ hh h => h.of_heap hh) own started (by kernel_rfl) Tryz.func7
    (ChangeSpec.witness_shaped (enc := enc) (C := Tryz.checked) (os := os) (X := fun w _ => laidMetH Tryz.prog dlaid w) false (World.laidAll Tryz.prog os dlaid) #[.agg #[.int .i64 0, .int .i64 0, .int .i64 0, .slice none 0 0, .string ⟨#[]⟩, .slice none 0 0, .int .i64 0, .slice none 0 0, .slice none 0 0], .int .i64 0, .int .i64 0] 8 (World.laidAll_os _ _ _) (World.shaped_of_ZipB (by kernel_rfl) (by kernel_rfl)) (by kernel_rfl) (by kernel_rfl) (by kernel_rfl) (door_met os _)) ?_
  intro W base args ds gs before hval0 hW _ _ hL _
  have hval : ∀ (j : Nat) t v, Tryz.f7.params[j]? = some t → args[j]? = some v → Value.okWide Tryz.prog W .any base t v := hval0
  have hW' := hW
  obtain ⟨p, q, hA0, _⟩ := hW
  have hA : DataW.TrodAll enc Tryz.prog W 0 (fun _ => true) true Tryz.f7.params.toList args.toList ds p := hA0
  rw [Tryz.params7] at hA
  obtain ⟨v1, vs1, d1, ds1, p1, q1, hargs, rfl, rfl, h1, r1⟩ := trodAll_cons hA
  obtain ⟨v2, vs2, d2, ds2, p2, q2, rfl, rfl, rfl, h2, r2⟩ := trodAll_cons r1
  obtain ⟨v3, vs3, d3, ds3, p3, q3, rfl, rfl, rfl, h3, r3⟩ := trodAll_cons r2
  obtain ⟨rfl, rfl, rfl⟩ := trodAll_nil r3
  obtain rfl : args = #[v1, v2, v3] := by cases args; simp_all
  obtain ⟨ss1, ⟨x1, rfl, w1⟩, a1⟩ := rd_Sc.argAgg Tryz.underlying29 (hval 0 29 v1 (by rw [Tryz.params7]; rfl) rfl) h1
  obtain ⟨n2, b2, c2, a2⟩ := Rd.argInt Tryz.underlying3 (hval 1 3 v2 (by rw [Tryz.params7]; rfl) rfl) h2
  obtain ⟨n3, b3, c3, a3⟩ := Rd.argInt Tryz.underlying3 (hval 2 3 v3 (by rw [Tryz.params7]; rfl) rfl) h3
  exact row_true (by kernel_rfl) (by kernel_rfl) rfl (by kernel_rfl) Tryz.underlying4 ⟨rfl, rfl, rfl⟩ hW' ((checks_W x1 w1 n2 n3 ⟨b2, c2⟩ ⟨b3, c3⟩).runT (vs := [v1, v2, v3]) (Vs_cons a1 (Vs_cons a2 (Vs_cons a3 Vs_nil))) (amb_of_laid hL))

theorem scriptChecks_a : (Rows.scriptChecksRow.inPlace == Tryz.prog.inPlace 7) = true := by kernel_rfl
theorem scriptChecks_b : (Rows.scriptChecksRow.unfollowed == Tryz.prog.unfollowed 7) = true := by kernel_rfl
theorem scriptChecks_c : (Rows.scriptChecksRow.recurses == Tryz.prog.recurses 7) = true := by kernel_rfl
theorem scriptChecks_d : (Rows.scriptChecksRow.named == Tryz.prog.varsNamed 7) = true := by kernel_rfl
theorem scriptChecks_closed : joinedFacts Tryz.pinned.checked.prog 7 Tryz.f7 Rows.scriptChecksSpec Rows.scriptChecksRow = true := by
  unfold joinedFacts
  exact jf_and (jf_and (jf_and (jf_and (jf_and (jf_and (jf_and (jf_and (jf_and (jf_and (jf_and (jf_and (jf_and (jf_and (jf_and (jf_and (jf_and (jf_and (jf_and (jf_and (jf_and (jf_and (jf_and (jf_and (jf_and (jf_and (jf_and (jf_and (jf_and (jf_and (jf_and ((by kernel_rfl)) jf_laidOut) jf_mapsRowed) (by kernel_rfl)) (by kernel_rfl)) (by kernel_rfl)) (by kernel_rfl)) (by kernel_rfl)) (by kernel_rfl)) scriptChecks_a) scriptChecks_b) scriptChecks_c) scriptChecks_d) (by kernel_rfl)) (by kernel_rfl)) (by kernel_rfl)) (by kernel_rfl)) (by kernel_rfl)) (by kernel_rfl)) (by kernel_rfl)) (by kernel_rfl)) (by kernel_rfl)) jf_plainKeys) (by kernel_rfl)) jf_stopsHeard) jf_mayEnter) jf_lifts) jf_make) (by kernel_rfl)) (by kernel_rfl)) (by kernel_rfl)) (by kernel_rfl)
theorem scriptChecks_inst : Tryz.f7.isInstance Tryz.pinned.checked.prog Rows.scriptChecksRow.origin Rows.scriptChecksRow.targs := of_decide_eq_true (by kernel_rfl)
theorem scriptChecks_wrap : Tryz.f7.isWrapper Tryz.pinned.checked.prog Rows.scriptChecksRow.wrapper Rows.scriptChecksRow.mainSum := by unfold Func.isWrapper; first | (rw [if_pos (by decide +kernel)]; kernel_rfl) | (rw [if_neg (by decide +kernel)]; exact ⟨rfl, rfl⟩)
theorem scriptChecks_goes : false = Rows.scriptChecksRow.goesBy Tryz.pinned.checked.prog := by kernel_rfl
theorem scriptChecks_over : Rows.ScriptChecksSaid :=
  OpenClaim.holds_of_wide 7 Tryz.f7 rfl rfl rfl rfl rfl rfl rfl ⟨rfl, rfl, rfl, rfl, rfl⟩ rfl rfl rfl rfl rfl (by kernel_rfl) Tryz.func7 scriptChecks_closed
    scriptChecks_inst scriptChecks_wrap
    (fun os started H enc _ => scriptChecks_lifted os started H enc)

/-- the statement -/
theorem scriptChecks_proved : Rows.ScriptChecksCardSaid :=
  Claim7.holds_tied_plain_at .later [] [.data, .data, .data, .data, .data, .pinned] true (true, "0632f77764ee94ad568f7d291d473313d5979d30a168639bc501ae405b60197b") true
    scriptChecks_over (fun _ h => by cases h) (by kernel_rfl) (fun _ h => by cases h) scriptChecks_row_tie rfl ⟨rfl, rfl⟩ jf_mainIs rfl
    (fun f fn hf hfn => by
      obtain rfl : f = 7 := Option.some.inj ((show Tryz.prog.funcNamed "groundling/groundlinglaw30.ScriptChecks" = some 7 by kernel_rfl).symm.trans hf) |>.symm
      obtain rfl : fn = Tryz.f7 := (Option.some.inj (Tryz.func7.symm.trans hfn)).symm
      exact ⟨jf_looks, fun j t ht => by
        rw [Tryz.params7] at ht
        have hm : t ∈ [29, 3, 3] := by simpa using Array.mem_of_getElem? ht
        have hall : ([29, 3, 3].all fun u => !Tryz.prog.wantsStandIn u) = true := by kernel_rfl
        exact (show Tryz.prog.wantsStandIn t = false by simpa using List.all_eq_true.1 hall t hm)⟩)
    scriptChecks_goes
#print axioms scriptChecks_proved
end Go.Proofs.YteccglgbkehdeaaGreatDoor
