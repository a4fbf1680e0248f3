/- ScriptDecodes returns true, whatever its arguments are, and they read afterwards as0 they read before; the tables that its row lists are tied to the text. -/
import Derived.Test.YteccglgbkehdeaaGreatDoorPD7
import Derived.Test.YteccglgbkehdeaaGreatDoorJF
import Derived.Test.YteccglgbkehdeaaGreatDoorCards
import Derived.Stop.Joined
import Derived.OpenShut
set_option linter.unusedSimpArgs false
set_option linter.unusedVariables false
namespace Go.Proofs.YteccglgbkehdeaaGreatDoor
open Go.ChangeShapes Go.WideShapes Go.Deep Go.RowKit Go.ChangeAt

set_option maxRecDepth 100000 in
theorem scriptDecodes_lifted (os : Os) (started : os.Started) (H : Type) (enc : TypeId × Value → H) :
    ReturnsInHanded {} Tryz.checked os 9 .any (fun w args => (Rows.scriptDecodesSpec.pre enc Tryz.prog Tryz.f9 [] false w args ∧ laidMetH Tryz.prog dlaid w) ∧ sizedMet enc Tryz.prog Tryz.f9 (OpenSpec.ofChange Rows.scriptDecodesSpec) false w args)
      (Rows.scriptDecodesSpec.post enc Tryz.prog Tryz.f9 false true false false) := by
  refine returnsInHanded_of_change_and (C := Tryz.checked) (X := fun w _ => laidMetH Tryz.prog dlaid w) (fun _ _ _ hh h => h.of_heap hh) own started (by kernel_rfl) Tryz.func9
    (ChangeSpec.witness_shaped (enc := enc) (C := Tryz.checked) (os := os) (X := fun w _ => laidMetH Tryz.prog dlaid w) false (World.laidAll Tryz.prog os dlaid) #[.agg #[.int .i64 0, .int .i64 0, .int .i64 0, .slice none 0 0, .string ⟨#[]⟩, .slice none 0 0, .int .i64 0, .slice none 0 0, .slice none 0 0], .slice none 0 0, .slice none 0 0] 8 (World.laidAll_os _ _ _) (World.shaped_of_ZipB (by kernel_rfl) (by kernel_rfl)) (by kernel_rfl) (by kernel_rfl) (by kernel_rfl) (door_met os _)) ?_
  intro W base args ds gs before hval0 hW _ _ hL _
  have hval : ∀ (j : Nat) t v, Tryz.f9.params[j]? = some t → args[j]? = some v → Value.okWide Tryz.prog W .any base t v := hval0
  have hW' := hW
  obtain ⟨p, q, hA0, _⟩ := hW
  have hA : DataW.TrodAll enc Tryz.prog W 0 (fun _ => true) true Tryz.f9.params.toList args.toList ds p := hA0
  rw [Tryz.params9] at hA
  obtain ⟨v1, vs1, d1, ds1, p1, q1, hargs, rfl, rfl, h1, r1⟩ := trodAll_cons hA
  obtain ⟨v2, vs2, d2, ds2, p2, q2, rfl, rfl, rfl, h2, r2⟩ := trodAll_cons r1
  obtain ⟨v3, vs3, d3, ds3, p3, q3, rfl, rfl, rfl, h3, r3⟩ := trodAll_cons r2
  obtain ⟨rfl, rfl, rfl⟩ := trodAll_nil r3
  obtain rfl : args = #[v1, v2, v3] := by cases args; simp_all
  obtain ⟨ss1, ⟨x1, rfl, w1⟩, a1⟩ := rd_Sc.argAgg Tryz.underlying29 (hval 0 29 v1 (by rw [Tryz.params9]; rfl) rfl) h1
  obtain ⟨s2, ⟨l2, rfl, m2⟩, a2⟩ := rd_bytes.argSl Tryz.underlying44 (hval 1 44 v2 (by rw [Tryz.params9]; rfl) rfl) h2
  obtain ⟨s3, ⟨l3, rfl, m3⟩, a3⟩ := rd_bytes.argSl Tryz.underlying44 (hval 2 44 v3 (by rw [Tryz.params9]; rfl) rfl) h3
  exact row_true (by kernel_rfl) (by kernel_rfl) rfl (by kernel_rfl) Tryz.underlying4 ⟨rfl, rfl, rfl⟩ hW' ((decodes_W x1 w1 l2 m2 l3 m3).runT (vs := [v1, v2, v3]) (Vs_cons a1 (Vs_cons a2 (Vs_cons a3 Vs_nil))) (amb_of_laid hL))

theorem scriptDecodes_a : (Rows.scriptDecodesRow.inPlace == Tryz.prog.inPlace 9) = true := by kernel_rfl
theorem scriptDecodes_b : (Rows.scriptDecodesRow.unfollowed == Tryz.prog.unfollowed 9) = true := by kernel_rfl
theorem scriptDecodes_c : (Rows.scriptDecodesRow.recurses == Tryz.prog.recurses 9) = true := by kernel_rfl
theorem scriptDecodes_d : (Rows.scriptDecodesRow.named == Tryz.prog.varsNamed 9) = true := by kernel_rfl
theorem scriptDecodes_closed : joinedFacts Tryz.pinned.checked.prog 9 Tryz.f9 Rows.scriptDecodesSpec Rows.scriptDecodesRow = true := by
  unfold joinedFacts
  exact jf_and (jf_and (jf_and (jf_and (jf_and (jf_and (jf_and (jf_and (jf_and (jf_and (jf_and (jf_and (jf_and (jf_and (jf_and (jf_and (jf_and (jf_and (jf_and (jf_and (jf_and (jf_and (jf_and (jf_and (jf_and (jf_and (jf_and (jf_and (jf_and (jf_and (jf_and ((by kernel_rfl)) jf_laidOut) jf_mapsRowed) (by kernel_rfl)) (by kernel_rfl)) (by kernel_rfl)) (by kernel_rfl)) (by kernel_rfl)) (by kernel_rfl)) scriptDecodes_a) scriptDecodes_b) scriptDecodes_c) scriptDecodes_d) (by kernel_rfl)) (by kernel_rfl)) (by kernel_rfl)) (by kernel_rfl)) (by kernel_rfl)) (by kernel_rfl)) (by kernel_rfl)) (by kernel_rfl)) (by kernel_rfl)) jf_plainKeys) (by kernel_rfl)) jf_stopsHeard) jf_mayEnter) jf_lifts) jf_make) (by kernel_rfl)) (by kernel_rfl)) (by kernel_rfl)) (by kernel_rfl)
theorem scriptDecodes_inst : Tryz.f9.isInstance Tryz.pinned.checked.prog Rows.scriptDecodesRow.origin Rows.scriptDecodesRow.targs := of_decide_eq_true (by kernel_rfl)
theorem scriptDecodes_wrap : Tryz.f9.isWrapper Tryz.pinned.checked.prog Rows.scriptDecodesRow.wrapper Rows.scriptDecodesRow.mainSum := by unfold Func.isWrapper; first | (rw [if_pos (by decide +kernel)]; kernel_rfl) | (rw [if_neg (by decide +kernel)]; exact ⟨rfl, rfl⟩)
theorem scriptDecodes_goes : false = Rows.scriptDecodesRow.goesBy Tryz.pinned.checked.prog := by kernel_rfl
theorem scriptDecodes_over : Rows.ScriptDecodesSaid :=
  OpenClaim.holds_of_wide 9 Tryz.f9 rfl rfl rfl rfl rfl rfl rfl ⟨rfl, rfl, rfl, rfl, rfl⟩ rfl rfl rfl rfl rfl (by kernel_rfl) Tryz.func9 scriptDecodes_closed
    scriptDecodes_inst scriptDecodes_wrap
    (fun os started H enc _ => scriptDecodes_lifted os started H enc)

/-- the statement -/
theorem scriptDecodes_proved : Rows.ScriptDecodesCardSaid :=
  Claim7.holds_tied_plain_at .later [] [.data, .data, .data, .data, .data, .pinned] true (true, "0632f77764ee94ad568f7d291d473313d5979d30a168639bc501ae405b60197b") true
    scriptDecodes_over (fun _ h => by cases h) (by kernel_rfl) (fun _ h => by cases h) scriptDecodes_row_tie rfl ⟨rfl, rfl⟩ jf_mainIs rfl
    (fun f fn hf hfn => by
      obtain rfl : f = 9 := Option.some.inj ((show Tryz.prog.funcNamed "groundling/groundlinglaw30.ScriptDecodes" = some 9 by kernel_rfl).symm.trans hf) |>.symm
      obtain rfl : fn = Tryz.f9 := (Option.some.inj (Tryz.func9.symm.trans hfn)).symm
      exact ⟨jf_looks, fun j t ht => by
        rw [Tryz.params9] at ht
        have hm : t ∈ [29, 44, 44] := by simpa using Array.mem_of_getElem? ht
        have hall : ([29, 44, 44].all fun u => !Tryz.prog.wantsStandIn u) = true := by kernel_rfl
        exact (show Tryz.prog.wantsStandIn t = false by simpa using List.all_eq_true.1 hall t hm)⟩)
    scriptDecodes_goes
#print axioms scriptDecodes_proved
end Go.Proofs.YteccglgbkehdeaaGreatDoor
