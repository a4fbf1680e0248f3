/- ResponsesRound returns true, whatever its arguments are, and they read afterwards as they read before; the tables that its row lists are tied to the text. -/
import Derived.Test.YtcobkjognpjikaaDoorY
import Derived.Test.YtcobkjognpjikaaDoorX4
import Derived.Test.YtcobkjognpjikaaDoorDR
import Derived.Test.YtcobkjognpjikaaDoorCards
import Derived.Stop.Joined
import Derived.OpenShut
set_option linter.unusedSimpArgs false
set_option linter.unusedVariables false
namespace Go.Proofs.YtcobkjognpjikaaDoor
open Go.ChangeShapes Go.WideShapes Go.Deep Go.RowKit Go.ChangeAt

set_option maxRecDepth 100000 in
theorem responsesRound_lifted (os : Os) (started : os.Started) (H : Type) (enc : TypeId × Value → H) :
    ReturnsInHanded {} Tryd.checked os 7 .any (fun w args => (Rows.responsesRoundSpec.pre enc Tryd.prog Tryd.f7 [] false w args ∧ laidMetH Tryd.prog dlaid w) ∧ sizedMet enc Tryd.prog Tryd.f7 (OpenSpec.ofChange Rows.responsesRoundSpec) false w args)
      (Rows.responsesRoundSpec.post enc Tryd.prog Tryd.f7 false true false false) := by
  refine returnsInHanded_of_change_and (C := Tryd.checked) (X := fun w _ => laidMetH Tryd.prog dlaid w) (fun _ _ _ hh h => h.of_heap hh) own started (by kernel_rfl) Tryd.func7
    (ChangeSpec.witness_shaped (enc := enc) (C := Tryd.checked) (os := os) (X := fun w _ => laidMetH Tryd.prog dlaid w) false (World.doorLaid Tryd.prog 400 os) #[.agg #[.int .i64 0, .int .u64 0, .int .i64 0, .string ⟨#[]⟩, .string ⟨#[]⟩, .int .i64 0, .int .i64 0, .int .i64 0, .int .i64 0], .int .u16 0, .int .u8 0] 8 rfl (World.shaped_of_RefB (by kernel_rfl) (by kernel_rfl)) (by kernel_rfl) (by kernel_rfl) (by kernel_rfl) (door_met os _)) ?_
  intro W base args ds gs before hval0 hW _ _ hL _
  have hval : ∀ (j : Nat) t v, Tryd.f7.params[j]? = some t → args[j]? = some v → Value.okWide Tryd.prog W .any base t v := hval0
  have hW' := hW
  obtain ⟨p, q, hA0, _⟩ := hW
  have hA : DataW.TrodAll enc Tryd.prog W 0 (fun _ => true) true Tryd.f7.params.toList args.toList ds p := hA0
  rw [Tryd.params7] at hA
  obtain ⟨v1, vs1, d1, ds1, p1, q1, hargs, rfl, rfl, h1, r1⟩ := trodAll_cons hA
  obtain ⟨v2, vs2, d2, ds2, p2, q2, rfl, rfl, rfl, h2, r2⟩ := trodAll_cons r1
  obtain ⟨v3, vs3, d3, ds3, p3, q3, rfl, rfl, rfl, h3, r3⟩ := trodAll_cons r2
  obtain ⟨rfl, rfl, rfl⟩ := trodAll_nil r3
  obtain rfl : args = #[v1, v2, v3] := by cases args; simp_all
  obtain ⟨ss1, ⟨x1, rfl, w1⟩, a1⟩ := rd_Rs.argAgg Tryd.underlying25 (hval 0 25 v1 (by rw [Tryd.params7]; rfl) rfl) h1
  obtain ⟨n2, b2, c2, a2⟩ := Rd.argInt Tryd.underlying48 (hval 1 48 v2 (by rw [Tryd.params7]; rfl) rfl) h2
  obtain ⟨n3, b3, c3, a3⟩ := Rd.argInt Tryd.underlying5 (hval 2 5 v3 (by rw [Tryd.params7]; rfl) rfl) h3
  exact row_true (by kernel_rfl) (by kernel_rfl) rfl (by kernel_rfl) Tryd.underlying4 ⟨rfl, rfl, rfl⟩ hW' ((lawRound_P x1 w1 n2 ⟨Int.le_trans (by decide) b2, Int.le_trans c2 (by decide)⟩ n3 ⟨Int.le_trans (by decide) b3, Int.le_trans c3 (by decide)⟩).runT (vs := [v1, v2, v3]) (Vs_cons a1 (Vs_cons a2 (Vs_cons a3 Vs_nil))) (amb_of_laid hL))

theorem responsesRound_over : Rows.ResponsesRoundSaid :=
  OpenClaim.holds_of_wide 7 Tryd.f7 rfl rfl rfl rfl rfl rfl rfl ⟨rfl, rfl, rfl, rfl, rfl⟩ rfl rfl rfl rfl rfl (by kernel_rfl) Tryd.func7 (by kernel_rfl)
    (of_decide_eq_true (by kernel_rfl)) (by unfold Func.isWrapper; first | (rw [if_pos (by decide +kernel)]; kernel_rfl) | (rw [if_neg (by decide +kernel)]; exact ⟨rfl, rfl⟩))
    (fun os started H enc _ => responsesRound_lifted os started H enc)

/-- the statement -/
theorem responsesRound_proved : Rows.ResponsesRoundCardSaid :=
  Claim7.holds_tied_plain_at .later [] [.data, .data, .data, .data, .data, .data] true (true, "5063d70d542883b0038d303c0b0e23b92b42746a516c2dc100e55f37c35ceaa4") true
    responsesRound_over (fun _ h => by cases h) (by kernel_rfl) (fun _ h => by cases h) responsesRound_row_tie rfl ⟨rfl, rfl⟩ (by kernel_rfl) rfl
    (fun f fn hf hfn => by
      obtain rfl : f = 7 := Option.some.inj ((show Tryd.prog.funcNamed "groundling/groundlinglaw10.ResponsesRound" = some 7 by kernel_rfl).symm.trans hf) |>.symm
      obtain rfl : fn = Tryd.f7 := (Option.some.inj (Tryd.func7.symm.trans hfn)).symm
      exact ⟨by kernel_rfl, fun j t ht => by
        rw [Tryd.params7] at ht
        have hm : t ∈ [25, 48, 5] := by simpa using Array.mem_of_getElem? ht
        have hall : ([25, 48, 5].all fun u => !Tryd.prog.wantsStandIn u) = true := by kernel_rfl
        exact (show Tryd.prog.wantsStandIn t = false by simpa using List.all_eq_true.1 hall t hm)⟩)
    (by kernel_rfl)
#print axioms responsesRound_proved
end Go.Proofs.YtcobkjognpjikaaDoor
