/- ModelSteps: for every input the law returns true; what is listed reads as the program's text lays it. -/
import Derived.Test.YtfoleblcaloeoaaGreatDoorZbb
import Derived.Test.YtfoleblcaloeoaaGreatDoorCards
import Derived.SevenTiedAt
import Derived.Stop.Joined
set_option maxHeartbeats 40000000
set_option maxRecDepth 20000
namespace Go.Proofs.YtfoleblcaloeoaaGreatDoor
open Go Go.RowKit Go.ChangeShapes Go.WideShapes Go.ChangeAt Go.Deep
set_option maxRecDepth 100000 in
theorem modelSteps_lifted (os:Os) (started:os.Started) (H:Type) (enc:TypeId × Value→H) :
  ReturnsInHanded {} Tryz.checked os 3 .any (fun w args=>(Rows.modelStepsSpec.pre enc Tryz.prog Tryz.f3 Rows.modelStepsRow.domain false w args∧laidMetH Tryz.prog LL w)∧sizedMet enc Tryz.prog Tryz.f3 (OpenSpec.ofChange Rows.modelStepsSpec) false w args)
   (Rows.modelStepsSpec.post enc Tryz.prog Tryz.f3 false true false false):=by
 refine returnsInHanded_of_change_and (C:=Tryz.checked) (X:=fun w _=>laidMetH Tryz.prog LL w) (fun _ _ _ hh h=>h.of_heap hh) Tryz.own started (by kernel_rfl) Tryz.func3
  (ChangeSpec.witness_shaped (enc:=enc) (C:=Tryz.checked) (os:=os) (X:=fun w _=>laidMetH Tryz.prog LL w) false (World.laidAll Tryz.prog os LL) #[.agg (Array.replicate 94 (.int .i64 0)),.slice none 0 0] 8 (World.laidAll_os _ _ _)
   (World.shaped_of_ZipB (by kernel_rfl) (by kernel_rfl)) (by kernel_rfl) (by kernel_rfl) (by kernel_rfl)
   (by rw [MakeChecks.laidMetH_plain _ _ _ (by kernel_rfl)];exact laidMet_laidAll _ (by kernel_rfl) (by kernel_rfl))) ?_
 intro W base args ds gs before De hW hc _ hL _;have EK:∀(j:Nat) t v,Tryz.f3.params[j]? = some t→args[j]? = some v→Value.okWide Tryz.prog W .any base t v:=De;have hW':=hW;obtain ⟨p,q,Bv,hV,rfl,_,_⟩:=hW;have hA:DataW.TrodAll enc Tryz.prog W 0 (fun _=>true) true Tryz.f3.params.toList args.toList ds p:=Bv;rw [Tryz.params3] at hA EK;obtain ⟨v0,v1,d0,d1,p0,p1,rfl,rfl,rfl,h0,h1⟩:=eD hA;obtain ⟨rfl,rfl⟩:=trodVars_none hV;obtain ⟨cs0,rfl,Hu⟩:=okWide_struct Tryz.underlying26 (EK 0 26 v0 rfl rfl);rw [cells26] at Hu;obtain ⟨x0,rfl⟩:=open_cfg Hu h0;obtain ⟨a1,len1,cap1,rfl⟩:=okWide_slice Tryz.underlying27 (EK 1 27 v1 rfl rfl);obtain ⟨fuel1,Id⟩:=h1;obtain ⟨l1,hv1,ES,vN⟩:=jP (v:=.slice a1 len1 cap1) Id;clear Bv De;have HF:=jC hL;refine (kB HF x0 hv1 ES).mono fun e W' ⟨he,AG⟩=>?_;subst he;exact ⟨_,rfl,law_end ⟨rfl,rfl,rfl⟩ rfl rfl Tryz.underlying4 (by kernel_rfl) (by kernel_rfl) hW' ⟨AG.os,AG.tape,AG.output,AG.size,fun k hk=>AG.block k hk ab⟩⟩
theorem modelSteps_holds:Rows.ModelStepsSaid :=
 OpenClaim.holds_of_wide 3 Tryz.f3 rfl rfl rfl rfl rfl rfl rfl ⟨rfl,rfl,rfl,rfl,rfl⟩ rfl rfl rfl rfl rfl (by kernel_rfl) Tryz.func3 (by kernel_rfl)
  (of_decide_eq_true (by kernel_rfl)) (by unfold Func.isWrapper;first|(rw [ah (by decide +kernel)];kernel_rfl)|(rw [ag (by decide +kernel)];exact ⟨rfl,rfl⟩))
  (fun os started H enc _=>modelSteps_lifted os started H enc)
theorem modelSteps_card:Rows.ModelStepsCardSaid :=
 Claim7.holds_tied_plain_at .later [] [.data,.data,.pinned] true Rows.modelStepsCard.stood.harness true modelSteps_holds (fun _ h=>by cases h) (by kernel_rfl) (fun _ h=>by cases h) modelSteps_row_tie rfl ⟨rfl,rfl⟩ (by kernel_rfl) rfl
  (fun f fn hf hfn=>by
   obtain rfl:f = 3:=aq ((show Tryz.prog.funcNamed "byre/byrelaw20.ModelSteps" = some 3 by kernel_rfl).symm.trans hf) |>.symm
   obtain rfl:fn = Tryz.f3:=(aq (Tryz.func3.symm.trans hfn)).symm
   exact ⟨by kernel_rfl,fun j t ht=>by
    rw [Tryz.params3] at ht
    have hm:t∈[26,27]:=by simpa using Array.mem_of_getElem? ht
    have kY:([26,27].all fun u=>!Tryz.prog.wantsStandIn u) = true:=by kernel_rfl
    exact (show Tryz.prog.wantsStandIn t = false by simpa using List.all_eq_true.1 kY t hm)⟩)
  (by kernel_rfl)
#print axioms modelSteps_card
end Go.Proofs.YtfoleblcaloeoaaGreatDoor
