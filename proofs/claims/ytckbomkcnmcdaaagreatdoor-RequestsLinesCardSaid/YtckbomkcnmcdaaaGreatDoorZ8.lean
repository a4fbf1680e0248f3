/- RequestsLines returns true, whatever its arguments are, and they read afterwards as they read before; the tables that its row lists are tied to the text. -/
import Derived.Test.YtckbomkcnmcdaaaGreatDoorY
import Derived.Test.YtckbomkcnmcdaaaGreatDoorX3
import Derived.Test.YtckbomkcnmcdaaaGreatDoorDR
import Derived.Test.YtckbomkcnmcdaaaGreatDoorCards
import Derived.Stop.Joined
import Derived.OpenShut
set_option linter.unusedSimpArgs false
set_option linter.unusedVariables false
namespace Go.Proofs.YtckbomkcnmcdaaaGreatDoor
open Go.ChangeShapes Go.WideShapes Go.Deep Go.RowKit Go.ChangeAt

set_option maxRecDepth 100000 in
theorem requestsLines_lifted (os : Os) (started : os.Started) (H : Type) (enc : TypeId × Value → H) :
    ReturnsInHanded {} Tryz.checked os 9 .any (fun w args => (Rows.requestsLinesSpec.pre enc Tryz.prog Tryz.f9 [] false w args ∧ laidMetH Tryz.prog dlaid w) ∧ sizedMet enc Tryz.prog Tryz.f9 (OpenSpec.ofChange Rows.requestsLinesSpec) false w args)
      (Rows.requestsLinesSpec.post enc Tryz.prog Tryz.f9 false true false false) := by
  refine returnsInHanded_of_change_and (C := Tryz.checked) (X := fun w _ => laidMetH Tryz.prog dlaid w) (fun _ _ _ hh h => h.of_heap hh) own started (by kernel_rfl) Tryz.func9
    (ChangeSpec.witness_shaped (enc := enc) (C := Tryz.checked) (os := os) (X := fun w _ => laidMetH Tryz.prog dlaid w) false (World.laidAll Tryz.prog os dlaid) #[.agg #[.int .i64 0, .int .u64 0, .int .u32 0, .int .u32 0, .string ⟨#[]⟩, .string ⟨#[]⟩, .int .i64 0, .int .i64 0, .int .i64 0, .int .i64 0], .string ⟨#[]⟩] 8 (World.laidAll_os _ _ _) (World.shaped_of_ZipB (by kernel_rfl) (by kernel_rfl)) (by kernel_rfl) (by kernel_rfl) (by kernel_rfl) (door_met os _)) ?_
  intro W base args ds gs before hval0 hW _ _ hL _
  have hval : ∀ (j : Nat) t v, Tryz.f9.params[j]? = some t → args[j]? = some v → Value.okWide Tryz.prog W .any base t v := hval0
  have hW' := hW
  obtain ⟨p, q, hA0, _⟩ := hW
  have hA : DataW.TrodAll enc Tryz.prog W 0 (fun _ => true) true Tryz.f9.params.toList args.toList ds p := hA0
  rw [Tryz.params9] at hA
  obtain ⟨v1, vs1, d1, ds1, p1, q1, hargs, rfl, rfl, h1, r1⟩ := trodAll_cons hA
  obtain ⟨v2, vs2, d2, ds2, p2, q2, rfl, rfl, rfl, h2, r2⟩ := trodAll_cons r1
  obtain ⟨rfl, rfl, rfl⟩ := trodAll_nil r2
  obtain rfl : args = #[v1, v2] := by cases args; simp_all
  obtain ⟨ss1, ⟨x1, rfl, w1⟩, a1⟩ := rd_Rq.argAgg Tryz.underlying35 (hval 0 35 v1 (by rw [Tryz.params9]; rfl) rfl) h1
  obtain ⟨l2, m2, a2⟩ := Rd.argStr Tryz.underlying9 (hval 1 9 v2 (by rw [Tryz.params9]; rfl) rfl) h2
  exact row_true (by kernel_rfl) (by kernel_rfl) rfl (by kernel_rfl) Tryz.underlying4 ⟨rfl, rfl, rfl⟩ hW' ((lawLines_P x1 w1 l2).runT (vs := [v1, v2]) (Vs_cons a1 (Vs_cons a2 Vs_nil)) (amb_of_laid hL))

theorem requestsLines_over : Rows.RequestsLinesSaid :=
  OpenClaim.holds_of_wide 9 Tryz.f9 rfl rfl rfl rfl rfl rfl rfl ⟨rfl, rfl, rfl, rfl, rfl⟩ rfl rfl rfl rfl rfl (by kernel_rfl) Tryz.func9 (by kernel_rfl)
    (of_decide_eq_true (by kernel_rfl)) (by unfold Func.isWrapper; first | (rw [if_pos (by decide +kernel)]; kernel_rfl) | (rw [if_neg (by decide +kernel)]; exact ⟨rfl, rfl⟩))
    (fun os started H enc _ => requestsLines_lifted os started H enc)

/-- the statement -/
theorem requestsLines_proved : Rows.RequestsLinesCardSaid :=
  Claim7.holds_tied_plain_at .later [] [.data, .data, .data, .data, .sentinel, .sentinel, .data, .data, .data, .pinned] true (true, "fa265250feb897697ead2916e4225471d84216cc6c046fc1fbdf10b00a904553") true
    requestsLines_over (fun _ h => by cases h) (by kernel_rfl) (fun _ h => by cases h) requestsLines_row_tie rfl ⟨rfl, rfl⟩ (by kernel_rfl) rfl
    (fun f fn hf hfn => by
      obtain rfl : f = 9 := Option.some.inj ((show Tryz.prog.funcNamed "groundling/groundlinglaw09.RequestsLines" = some 9 by kernel_rfl).symm.trans hf) |>.symm
      obtain rfl : fn = Tryz.f9 := (Option.some.inj (Tryz.func9.symm.trans hfn)).symm
      exact ⟨by kernel_rfl, fun j t ht => by
        rw [Tryz.params9] at ht
        have hm : t ∈ [35, 9] := by simpa using Array.mem_of_getElem? ht
        have hall : ([35, 9].all fun u => !Tryz.prog.wantsStandIn u) = true := by kernel_rfl
        exact (show Tryz.prog.wantsStandIn t = false by simpa using List.all_eq_true.1 hall t hm)⟩)
    (by kernel_rfl)
#print axioms requestsLines_proved
end Go.Proofs.YtckbomkcnmcdaaaGreatDoor
