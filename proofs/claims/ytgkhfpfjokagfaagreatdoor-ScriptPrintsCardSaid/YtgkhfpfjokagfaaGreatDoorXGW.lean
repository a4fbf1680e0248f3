/- ScriptPrints returns true, whatever its arguments are, and they read afterwards as they read before; the tables that its row lists are tied to the text. -/
import Derived.Test.YtgkhfpfjokagfaaGreatDoorXG9
import Derived.Test.YtgkhfpfjokagfaaGreatDoorJF
import Derived.Test.YtgkhfpfjokagfaaGreatDoorCards
import Derived.Stop.Joined
import Derived.OpenShut
set_option linter.unusedSimpArgs false
set_option linter.unusedVariables false
namespace Go.Proofs.YtgkhfpfjokagfaaGreatDoor
open Go.ChangeShapes Go.WideShapes Go.Deep Go.RowKit Go.ChangeAt
set_option maxRecDepth 100000 in
theorem kH(os:Os)(started:os.Started)(H:Type)(enc:TypeId×Value→H):
 ReturnsInHanded {} Tryz.checked os 3 .any (fun w args=>(Rows.scriptPrintsSpec.pre enc Tryz.prog Tryz.f3 [] false w args∧laidMetH Tryz.prog ju w)∧sizedMet enc Tryz.prog Tryz.f3 (OpenSpec.ofChange Rows.scriptPrintsSpec) false w args)
  (Rows.scriptPrintsSpec.post enc Tryz.prog Tryz.f3 false true false false):=by
 refine returnsInHanded_of_change_and (C:=Tryz.checked) (X:=fun w _=>laidMetH Tryz.prog ju w) (fun _ _ _ hh h=>h.of_heap hh) own started (by kernel_rfl) Tryz.func3
  (ChangeSpec.witness_shaped (enc:=enc) (C:=Tryz.checked) (os:=os) (X:=fun w _=>laidMetH Tryz.prog ju w) false (World.laidAll Tryz.prog os ju) #[.agg #[.int .i64 0,.int .i64 0,.int .i64 0,.slice none 0 0,.string ⟨#[]⟩,.slice none 0 0,.int .i64 0,.slice none 0 0,.slice none 0 0]] 8 (World.laidAll_os _ _ _) (World.shaped_of_ZipB (by kernel_rfl) (by kernel_rfl)) (by kernel_rfl) (by kernel_rfl) (by kernel_rfl) (CW os _)) ?_
 intro W base args ds gs before hval0 hW _ _ hL _;have hval:∀(j:Nat) t v,Tryz.f3.params[j]?=some t→args[j]?=some v→Value.okWide Tryz.prog W .any base t v:=hval0;have hW':=hW;obtain⟨p,q,hA0,_⟩:=hW;have hA:DataW.TrodAll enc Tryz.prog W 0 (fun _=>true) true Tryz.f3.params.toList args.toList ds p:=hA0;rw[Tryz.params3]at hA;obtain⟨v1,vs1,d1,ds1,p1,q1,hargs,rfl,rfl,h1,r1⟩:=trodAll_cons hA;obtain⟨rfl,rfl,rfl⟩:=trodAll_nil r1;obtain rfl:args=#[v1]:=by cases args;simp_all
 obtain⟨ss1,⟨x1,rfl,w1⟩,a1⟩:=HR.argAgg Tryz.underlying29 (hval 0 29 v1 (by rw[Tryz.params3];rfl) rfl) h1;exact B9 (by kernel_rfl) (by kernel_rfl) rfl (by kernel_rfl) Tryz.underlying4 ⟨rfl,rfl,rfl⟩ hW' ((Cj x1 w1).runT (vs:=[v1]) (iU a1 s7) (wk hL))
theorem rf:(Rows.scriptPrintsRow.inPlace==Tryz.prog.inPlace 3)=true:=by kernel_rfl
theorem rb:(Rows.scriptPrintsRow.unfollowed==Tryz.prog.unfollowed 3)=true:=by kernel_rfl
theorem ra:(Rows.scriptPrintsRow.recurses==Tryz.prog.recurses 3)=true:=by kernel_rfl
theorem q9:(Rows.scriptPrintsRow.named==Tryz.prog.varsNamed 3)=true:=by kernel_rfl
theorem kI:joinedFacts Tryz.pinned.checked.prog 3 Tryz.f3 Rows.scriptPrintsSpec Rows.scriptPrintsRow=true:=by
 unfold joinedFacts;exact jf_and (jf_and (jf_and (jf_and (jf_and (jf_and (jf_and (jf_and (jf_and (jf_and (jf_and (jf_and (jf_and (jf_and (jf_and (jf_and (jf_and (jf_and (jf_and (jf_and (jf_and (jf_and (jf_and (jf_and (jf_and (jf_and (jf_and (jf_and (jf_and (jf_and (jf_and ((by kernel_rfl)) jf_laidOut) jf_mapsRowed) (by kernel_rfl)) (by kernel_rfl)) (by kernel_rfl)) (by kernel_rfl)) (by kernel_rfl)) (by kernel_rfl)) rf) rb) ra) q9) (by kernel_rfl)) (by kernel_rfl)) (by kernel_rfl)) (by kernel_rfl)) (by kernel_rfl)) (by kernel_rfl)) (by kernel_rfl)) (by kernel_rfl)) (by kernel_rfl)) jf_plainKeys) (by kernel_rfl)) jf_stopsHeard) jf_mayEnter) jf_lifts) jf_make) (by kernel_rfl)) (by kernel_rfl)) (by kernel_rfl)) (by kernel_rfl)
theorem mJ:Tryz.f3.isInstance Tryz.pinned.checked.prog Rows.scriptPrintsRow.origin Rows.scriptPrintsRow.targs:=of_decide_eq_true (by kernel_rfl)
theorem mH:Tryz.f3.isWrapper Tryz.pinned.checked.prog Rows.scriptPrintsRow.wrapper Rows.scriptPrintsRow.mainSum:=by unfold Func.isWrapper;first|(rw[if_pos (by decide+kernel)];kernel_rfl)|(rw[if_neg (by decide+kernel)];exact⟨rfl,rfl⟩)
theorem mK:false=Rows.scriptPrintsRow.goesBy Tryz.pinned.checked.prog:=by kernel_rfl
theorem mI:Rows.ScriptPrintsSaid:=
 OpenClaim.holds_of_wide 3 Tryz.f3 rfl rfl rfl rfl rfl rfl rfl ⟨rfl,rfl,rfl,rfl,rfl⟩ rfl rfl rfl rfl rfl (by kernel_rfl) Tryz.func3 kI
  mJ mH
  (fun os started H enc _=>kH os started H enc)
theorem scriptPrints_proved:Rows.ScriptPrintsCardSaid:=
 Claim7.holds_tied_plain_at .later [] [.data,.data,.data,.data,.sentinel,.sentinel,.data,.data,.pinned] true (true, "7f634bed08a68c6085ac54b0f634d7ef95632231e00c37ef29647e13f517b0bc") true
  mI (fun _ h=>by cases h) (by kernel_rfl) (fun _ h=>by cases h) scriptPrints_row_tie rfl ⟨rfl,rfl⟩ jf_mainIs rfl
  (fun f fn hf hfn=>by
   obtain rfl:f=3:=Option.some.inj ((show Tryz.prog.funcNamed "groundling/groundlinglaw30.ScriptPrints" =some 3 by kernel_rfl).symm.trans hf)|>.symm;obtain rfl:fn=Tryz.f3:=(Option.some.inj (Tryz.func3.symm.trans hfn)).symm;exact⟨jf_looks,fun j t ht=>by
    rw[Tryz.params3]at ht;have hm:t∈[29]:=by simpa using Array.mem_of_getElem? ht
    have hall:([29].all fun u=>!Tryz.prog.wantsStandIn u)=true:=by kernel_rfl
    exact(show Tryz.prog.wantsStandIn t=false by simpa using List.all_eq_true.1 hall t hm)⟩)
  mK
#print axioms scriptPrints_proved
end Go.Proofs.YtgkhfpfjokagfaaGreatDoor