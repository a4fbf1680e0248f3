/- ScriptPayloads returns true, whatever its arguments are, and they read afterwards as0 they read before; the tables that its row lists are tied to the text. -/
import Derived.Test.YteccglgbkehdeaaGreatDoorPE7
import Derived.Test.YteccglgbkehdeaaGreatDoorJF
import Derived.Test.YteccglgbkehdeaaGreatDoorCards
import Derived.Stop.Joined
import Derived.OpenShut
set_option linter.unusedSimpArgs false
set_option linter.unusedVariables false
namespace Go.Proofs.YteccglgbkehdeaaGreatDoor
open Go.ChangeShapes Go.WideShapes Go.Deep Go.RowKit Go.ChangeAt

set_option maxRecDepth 100000 in
theorem scriptPayloads_lifted (os : Os) (started : os.Started) (H : Type) (enc : TypeId × Value → H) :
    ReturnsInHanded {} Tryz.checked os 4 .any (fun w args => (Rows.scriptPayloadsSpec.pre enc Tryz.prog Tryz.f4 [] false w args ∧ laidMetH Tryz.prog dlaid w) ∧ sizedMet enc Tryz.prog Tryz.f4 (OpenSpec.ofChange Rows.scriptPayloadsSpec) false w args)
      (Rows.scriptPayloadsSpec.post enc Tryz.prog Tryz.f4 false true false false) := by
  refine returnsInHanded_of_change_and (C := Tryz.checked) (X := fun w _ => laidMetH Tryz.prog dlaid w) (fun _ _ _ hh h => h.of_heap hh) own started (by kernel_rfl) Tryz.func4
    (ChangeSpec.witness_shaped (enc := enc) (C := Tryz.checked) (os := os) (X := fun w _ => laidMetH Tryz.prog dlaid w) false (World.laidAll Tryz.prog os dlaid) #[.agg #[.int .i64 0, .int .u32 0, .int .u32 0, .int .i64 0, .int .i64 0, .int .i64 0, .int .i64 0, .int .i64 0, .int .i64 0, .int .i64 0, .string ⟨#[]⟩, .int .u64 0, .string ⟨#[]⟩, .string ⟨#[]⟩]] 8 (World.laidAll_os _ _ _) (World.shaped_of_ZipB (by kernel_rfl) (by kernel_rfl)) (by kernel_rfl) (by kernel_rfl) (by kernel_rfl) (door_met os _)) ?_
  intro W base args ds gs before hval0 hW _ _ hL _
  have hval : ∀ (j : Nat) t v, Tryz.f4.params[j]? = some t → args[j]? = some v → Value.okWide Tryz.prog W .any base t v := hval0
  have hW' := hW
  obtain ⟨p, q, hA0, _⟩ := hW
  have hA : DataW.TrodAll enc Tryz.prog W 0 (fun _ => true) true Tryz.f4.params.toList args.toList ds p := hA0
  rw [Tryz.params4] at hA
  obtain ⟨v1, vs1, d1, ds1, p1, q1, hargs, rfl, rfl, h1, r1⟩ := trodAll_cons hA
  obtain ⟨rfl, rfl, rfl⟩ := trodAll_nil r1
  obtain rfl : args = #[v1] := by cases args; simp_all
  obtain ⟨ss1, ⟨x1, n1, t1, u1, rfl, w1, b1, m1, k1⟩, a1⟩ := rd_As.argAgg Tryz.underlying43 (hval 0 43 v1 (by rw [Tryz.params4]; rfl) rfl) h1
  exact row_true (by kernel_rfl) (by kernel_rfl) rfl (by kernel_rfl) Tryz.underlying4 ⟨rfl, rfl, rfl⟩ hW' ((payloads_W x1 w1 n1 b1 t1 u1 m1 k1).runT (vs := [v1]) (Vs_cons a1 Vs_nil) (amb_of_laid hL))

theorem scriptPayloads_a : (Rows.scriptPayloadsRow.inPlace == Tryz.prog.inPlace 4) = true := by kernel_rfl
theorem scriptPayloads_b : (Rows.scriptPayloadsRow.unfollowed == Tryz.prog.unfollowed 4) = true := by kernel_rfl
theorem scriptPayloads_c : (Rows.scriptPayloadsRow.recurses == Tryz.prog.recurses 4) = true := by kernel_rfl
theorem scriptPayloads_d : (Rows.scriptPayloadsRow.named == Tryz.prog.varsNamed 4) = true := by kernel_rfl
theorem scriptPayloads_closed : joinedFacts Tryz.pinned.checked.prog 4 Tryz.f4 Rows.scriptPayloadsSpec Rows.scriptPayloadsRow = true := by
  unfold joinedFacts
  exact jf_and (jf_and (jf_and (jf_and (jf_and (jf_and (jf_and (jf_and (jf_and (jf_and (jf_and (jf_and (jf_and (jf_and (jf_and (jf_and (jf_and (jf_and (jf_and (jf_and (jf_and (jf_and (jf_and (jf_and (jf_and (jf_and (jf_and (jf_and (jf_and (jf_and (jf_and ((by kernel_rfl)) jf_laidOut) jf_mapsRowed) (by kernel_rfl)) (by kernel_rfl)) (by kernel_rfl)) (by kernel_rfl)) (by kernel_rfl)) (by kernel_rfl)) scriptPayloads_a) scriptPayloads_b) scriptPayloads_c) scriptPayloads_d) (by kernel_rfl)) (by kernel_rfl)) (by kernel_rfl)) (by kernel_rfl)) (by kernel_rfl)) (by kernel_rfl)) (by kernel_rfl)) (by kernel_rfl)) (by kernel_rfl)) jf_plainKeys) (by kernel_rfl)) jf_stopsHeard) jf_mayEnter) jf_lifts) jf_make) (by kernel_rfl)) (by kernel_rfl)) (by kernel_rfl)) (by kernel_rfl)
theorem scriptPayloads_inst : Tryz.f4.isInstance Tryz.pinned.checked.prog Rows.scriptPayloadsRow.origin Rows.scriptPayloadsRow.targs := of_decide_eq_true (by kernel_rfl)
theorem scriptPayloads_wrap : Tryz.f4.isWrapper Tryz.pinned.checked.prog Rows.scriptPayloadsRow.wrapper Rows.scriptPayloadsRow.mainSum := by unfold Func.isWrapper; first | (rw [if_pos (by decide +kernel)]; kernel_rfl) | (rw [if_neg (by decide +kernel)]; exact ⟨rfl, rfl⟩)
theorem scriptPayloads_goes : false = Rows.scriptPayloadsRow.goesBy Tryz.pinned.checked.prog := by kernel_rfl
theorem scriptPayloads_over : Rows.ScriptPayloadsSaid :=
  OpenClaim.holds_of_wide 4 Tryz.f4 rfl rfl rfl rfl rfl rfl rfl ⟨rfl, rfl, rfl, rfl, rfl⟩ rfl rfl rfl rfl rfl (by kernel_rfl) Tryz.func4 scriptPayloads_closed
    scriptPayloads_inst scriptPayloads_wrap
    (fun os started H enc _ => scriptPayloads_lifted os started H enc)

/-- the statement -/
theorem scriptPayloads_proved : Rows.ScriptPayloadsCardSaid :=
  Claim7.holds_tied_plain_at .later [] [.data, .data, .data, .data, .data, .pinned] true (true, "0632f77764ee94ad568f7d291d473313d5979d30a168639bc501ae405b60197b") true
    scriptPayloads_over (fun _ h => by cases h) (by kernel_rfl) (fun _ h => by cases h) scriptPayloads_row_tie rfl ⟨rfl, rfl⟩ jf_mainIs rfl
    (fun f fn hf hfn => by
      obtain rfl : f = 4 := Option.some.inj ((show Tryz.prog.funcNamed "groundling/groundlinglaw30.ScriptPayloads" = some 4 by kernel_rfl).symm.trans hf) |>.symm
      obtain rfl : fn = Tryz.f4 := (Option.some.inj (Tryz.func4.symm.trans hfn)).symm
      exact ⟨jf_looks, fun j t ht => by
        rw [Tryz.params4] at ht
        have hm : t ∈ [43] := by simpa using Array.mem_of_getElem? ht
        have hall : ([43].all fun u => !Tryz.prog.wantsStandIn u) = true := by kernel_rfl
        exact (show Tryz.prog.wantsStandIn t = false by simpa using List.all_eq_true.1 hall t hm)⟩)
    scriptPayloads_goes
#print axioms scriptPayloads_proved
end Go.Proofs.YteccglgbkehdeaaGreatDoor
