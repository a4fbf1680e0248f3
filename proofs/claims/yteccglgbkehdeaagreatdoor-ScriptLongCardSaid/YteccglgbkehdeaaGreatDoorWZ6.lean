/- ScriptLong returns true, whatever its arguments are, and they read afterwards as0 they read before; the tables that its row lists are tied to the text. -/
import Derived.Test.YteccglgbkehdeaaGreatDoorPD7
import Derived.Test.YteccglgbkehdeaaGreatDoorJF
import Derived.Test.YteccglgbkehdeaaGreatDoorCards
import Derived.Stop.Joined
import Derived.OpenShut
set_option linter.unusedSimpArgs false
set_option linter.unusedVariables false
namespace Go.Proofs.YteccglgbkehdeaaGreatDoor
open Go.ChangeShapes Go.WideShapes Go.Deep Go.RowKit Go.ChangeAt

set_option maxRecDepth 100000 in
theorem scriptLong_lifted (os : Os) (started : os.Started) (H : Type) (enc : TypeId × Value → H) :
    ReturnsInHanded {} Tryz.checked os 10 .any (fun w args => (Rows.scriptLongSpec.pre enc Tryz.prog Tryz.f10 [] false w args ∧ laidMetH Tryz.prog dlaid w) ∧ sizedMet enc Tryz.prog Tryz.f10 (OpenSpec.ofChange Rows.scriptLongSpec) false w args)
      (Rows.scriptLongSpec.post enc Tryz.prog Tryz.f10 false true false false) := by
  refine returnsInHanded_of_change_and (C := Tryz.checked) (X := fun w _ => laidMetH Tryz.prog dlaid w) (fun _ _ _ hh h => h.of_heap hh) own started (by kernel_rfl) Tryz.func10
    (ChangeSpec.witness_shaped (enc := enc) (C := Tryz.checked) (os := os) (X := fun w _ => laidMetH Tryz.prog dlaid w) false (World.laidAll Tryz.prog os dlaid) #[.int .u8 0, .int .u8 0, .int .u16 0] 8 (World.laidAll_os _ _ _) (World.shaped_of_ZipB (by kernel_rfl) (by kernel_rfl)) (by kernel_rfl) (by kernel_rfl) (by kernel_rfl) (door_met os _)) ?_
  intro W base args ds gs before hval0 hW _ _ hL _
  have hval : ∀ (j : Nat) t v, Tryz.f10.params[j]? = some t → args[j]? = some v → Value.okWide Tryz.prog W .any base t v := hval0
  have hW' := hW
  obtain ⟨p, q, hA0, _⟩ := hW
  have hA : DataW.TrodAll enc Tryz.prog W 0 (fun _ => true) true Tryz.f10.params.toList args.toList ds p := hA0
  rw [Tryz.params10] at hA
  obtain ⟨v1, vs1, d1, ds1, p1, q1, hargs, rfl, rfl, h1, r1⟩ := trodAll_cons hA
  obtain ⟨v2, vs2, d2, ds2, p2, q2, rfl, rfl, rfl, h2, r2⟩ := trodAll_cons r1
  obtain ⟨v3, vs3, d3, ds3, p3, q3, rfl, rfl, rfl, h3, r3⟩ := trodAll_cons r2
  obtain ⟨rfl, rfl, rfl⟩ := trodAll_nil r3
  obtain rfl : args = #[v1, v2, v3] := by cases args; simp_all
  obtain ⟨n1, b1, c1, a1⟩ := Rd.argInt Tryz.underlying5 (hval 0 5 v1 (by rw [Tryz.params10]; rfl) rfl) h1
  obtain ⟨n2, b2, c2, a2⟩ := Rd.argInt Tryz.underlying5 (hval 1 5 v2 (by rw [Tryz.params10]; rfl) rfl) h2
  obtain ⟨n3, b3, c3, a3⟩ := Rd.argInt Tryz.underlying75 (hval 2 75 v3 (by rw [Tryz.params10]; rfl) rfl) h3
  exact row_true (by kernel_rfl) (by kernel_rfl) rfl (by kernel_rfl) Tryz.underlying4 ⟨rfl, rfl, rfl⟩ hW' ((long_W n1 n2 n3 ⟨b1, c1⟩ ⟨b2, c2⟩ ⟨b3, c3⟩).runT (vs := [v1, v2, v3]) (Vs_cons a1 (Vs_cons a2 (Vs_cons a3 Vs_nil))) (amb_of_laid hL))

theorem scriptLong_a : (Rows.scriptLongRow.inPlace == Tryz.prog.inPlace 10) = true := by kernel_rfl
theorem scriptLong_b : (Rows.scriptLongRow.unfollowed == Tryz.prog.unfollowed 10) = true := by kernel_rfl
theorem scriptLong_c : (Rows.scriptLongRow.recurses == Tryz.prog.recurses 10) = true := by kernel_rfl
theorem scriptLong_d : (Rows.scriptLongRow.named == Tryz.prog.varsNamed 10) = true := by kernel_rfl
theorem scriptLong_closed : joinedFacts Tryz.pinned.checked.prog 10 Tryz.f10 Rows.scriptLongSpec Rows.scriptLongRow = true := by
  unfold joinedFacts
  exact jf_and (jf_and (jf_and (jf_and (jf_and (jf_and (jf_and (jf_and (jf_and (jf_and (jf_and (jf_and (jf_and (jf_and (jf_and (jf_and (jf_and (jf_and (jf_and (jf_and (jf_and (jf_and (jf_and (jf_and (jf_and (jf_and (jf_and (jf_and (jf_and (jf_and (jf_and ((by kernel_rfl)) jf_laidOut) jf_mapsRowed) (by kernel_rfl)) (by kernel_rfl)) (by kernel_rfl)) (by kernel_rfl)) (by kernel_rfl)) (by kernel_rfl)) scriptLong_a) scriptLong_b) scriptLong_c) scriptLong_d) (by kernel_rfl)) (by kernel_rfl)) (by kernel_rfl)) (by kernel_rfl)) (by kernel_rfl)) (by kernel_rfl)) (by kernel_rfl)) (by kernel_rfl)) (by kernel_rfl)) jf_plainKeys) (by kernel_rfl)) jf_stopsHeard) jf_mayEnter) jf_lifts) jf_make) (by kernel_rfl)) (by kernel_rfl)) (by kernel_rfl)) (by kernel_rfl)
theorem scriptLong_inst : Tryz.f10.isInstance Tryz.pinned.checked.prog Rows.scriptLongRow.origin Rows.scriptLongRow.targs := of_decide_eq_true (by kernel_rfl)
theorem scriptLong_wrap : Tryz.f10.isWrapper Tryz.pinned.checked.prog Rows.scriptLongRow.wrapper Rows.scriptLongRow.mainSum := by unfold Func.isWrapper; first | (rw [if_pos (by decide +kernel)]; kernel_rfl) | (rw [if_neg (by decide +kernel)]; exact ⟨rfl, rfl⟩)
theorem scriptLong_goes : false = Rows.scriptLongRow.goesBy Tryz.pinned.checked.prog := by kernel_rfl
theorem scriptLong_over : Rows.ScriptLongSaid :=
  OpenClaim.holds_of_wide 10 Tryz.f10 rfl rfl rfl rfl rfl rfl rfl ⟨rfl, rfl, rfl, rfl, rfl⟩ rfl rfl rfl rfl rfl (by kernel_rfl) Tryz.func10 scriptLong_closed
    scriptLong_inst scriptLong_wrap
    (fun os started H enc _ => scriptLong_lifted os started H enc)

/-- the statement -/
theorem scriptLong_proved : Rows.ScriptLongCardSaid :=
  Claim7.holds_tied_plain_at .later [] [.data, .data, .data, .data, .data, .pinned] true (true, "0632f77764ee94ad568f7d291d473313d5979d30a168639bc501ae405b60197b") true
    scriptLong_over (fun _ h => by cases h) (by kernel_rfl) (fun _ h => by cases h) scriptLong_row_tie rfl ⟨rfl, rfl⟩ jf_mainIs rfl
    (fun f fn hf hfn => by
      obtain rfl : f = 10 := Option.some.inj ((show Tryz.prog.funcNamed "groundling/groundlinglaw30.ScriptLong" = some 10 by kernel_rfl).symm.trans hf) |>.symm
      obtain rfl : fn = Tryz.f10 := (Option.some.inj (Tryz.func10.symm.trans hfn)).symm
      exact ⟨jf_looks, fun j t ht => by
        rw [Tryz.params10] at ht
        have hm : t ∈ [5, 5, 75] := by simpa using Array.mem_of_getElem? ht
        have hall : ([5, 5, 75].all fun u => !Tryz.prog.wantsStandIn u) = true := by kernel_rfl
        exact (show Tryz.prog.wantsStandIn t = false by simpa using List.all_eq_true.1 hall t hm)⟩)
    scriptLong_goes
#print axioms scriptLong_proved
end Go.Proofs.YteccglgbkehdeaaGreatDoor
