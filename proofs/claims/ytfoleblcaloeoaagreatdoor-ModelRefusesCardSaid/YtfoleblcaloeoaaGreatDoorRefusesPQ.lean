/- ModelRefuses: for every input the law returns true; what is listed reads as the program's text lays it. -/
import Derived.Test.YtfoleblcaloeoaaGreatDoorZbx
import Derived.Test.YtfoleblcaloeoaaGreatDoorCards
import Derived.SevenTiedAt
import Derived.Stop.Joined
set_option maxHeartbeats 40000000
set_option maxRecDepth 20000
namespace Go.Proofs.YtfoleblcaloeoaaGreatDoor
open Go Go.RowKit Go.ChangeShapes Go.WideShapes Go.ChangeAt Go.Deep
set_option maxRecDepth 100000 in
theorem modelRefuses_lifted (os:Os) (started:os.Started) (H:Type) (enc:TypeId × Value→H) :
  ReturnsInHanded {} Tryz.checked os 4 .any (fun w args=>(Rows.modelRefusesSpec.pre enc Tryz.prog Tryz.f4 Rows.modelRefusesRow.domain false w args∧laidMetH Tryz.prog LL w)∧sizedMet enc Tryz.prog Tryz.f4 (OpenSpec.ofChange Rows.modelRefusesSpec) false w args)
   (Rows.modelRefusesSpec.post enc Tryz.prog Tryz.f4 false true false false):=by
 refine returnsInHanded_of_change_and (C:=Tryz.checked) (X:=fun w _=>laidMetH Tryz.prog LL w) (fun _ _ _ hh h=>h.of_heap hh) Tryz.own started (by kernel_rfl) Tryz.func4
  (ChangeSpec.witness_shaped (enc:=enc) (C:=Tryz.checked) (os:=os) (X:=fun w _=>laidMetH Tryz.prog LL w) false (World.laidAll Tryz.prog os LL) #[.agg (Array.replicate 94 (.int .i64 0)),.slice none 0 0] 8 (World.laidAll_os _ _ _)
   (World.shaped_of_ZipB (by kernel_rfl) (by kernel_rfl)) (by kernel_rfl) (by kernel_rfl) (by kernel_rfl)
   (by rw [MakeChecks.laidMetH_plain _ _ _ (by kernel_rfl)];exact laidMet_laidAll _ (by kernel_rfl) (by kernel_rfl))) ?_
 intro W base args ds gs before BV hW hc _ hL _
 have DG:∀(j:Nat) t v,Tryz.f4.params[j]? = some t→args[j]? = some v→Value.okWide Tryz.prog W .any base t v:=BV
 have hW':=hW
 obtain ⟨p,q,Ai,hV,rfl,_,_⟩:=hW
 have hA:DataW.TrodAll enc Tryz.prog W 0 (fun _=>true) true Tryz.f4.params.toList args.toList ds p:=Ai
 rw [Tryz.params4] at hA DG
 obtain ⟨v0,v1,d0,d1,p0,p1,rfl,rfl,rfl,h0,h1⟩:=cX hA
 obtain ⟨rfl,rfl⟩:=trodVars_none hV
 obtain ⟨cs0,rfl,FY⟩:=okWide_struct Tryz.underlying26 (DG 0 26 v0 rfl rfl)
 rw [cells26] at FY
 obtain ⟨x0,rfl⟩:=open_cfg FY h0
 obtain ⟨a1,len1,cap1,rfl⟩:=okWide_slice Tryz.underlying27 (DG 1 27 v1 rfl rfl)
 obtain ⟨fuel1,Ge⟩:=h1
 obtain ⟨l1,EC,DN,vQ⟩:=iJ (v:=.slice a1 len1 cap1) Ge
 clear Ai BV
 have HF:=gY hL
 refine (cC HF x0 EC DN).mono fun e W' ⟨he,Dg⟩=>?_
 subst he
 exact ⟨_,rfl,law_end ⟨rfl,rfl,rfl⟩ rfl rfl Tryz.underlying4 (by kernel_rfl) (by kernel_rfl) hW' ⟨Dg.os,Dg.tape,Dg.output,Dg.size,fun k hk=>Dg.block k hk List.not_mem_nil⟩⟩
theorem modelRefuses_holds:Rows.ModelRefusesSaid :=
 OpenClaim.holds_of_wide 4 Tryz.f4 rfl rfl rfl rfl rfl rfl rfl ⟨rfl,rfl,rfl,rfl,rfl⟩ rfl rfl rfl rfl rfl (by kernel_rfl) Tryz.func4 (by kernel_rfl)
  (of_decide_eq_true (by kernel_rfl)) (by unfold Func.isWrapper;first|(rw [if_pos (by decide +kernel)];kernel_rfl)|(rw [if_neg (by decide +kernel)];exact ⟨rfl,rfl⟩))
  (fun os started H enc _=>modelRefuses_lifted os started H enc)
theorem modelRefuses_card:Rows.ModelRefusesCardSaid :=
 Claim7.holds_tied_plain_at .later [] [.data,.data,.pinned] true Rows.modelRefusesCard.stood.harness true modelRefuses_holds (fun _ h=>by cases h) (by kernel_rfl) (fun _ h=>by cases h) modelRefuses_row_tie rfl ⟨rfl,rfl⟩ (by kernel_rfl) rfl
  (fun f fn hf hfn=>by
   obtain rfl:f = 4:=Option.some.inj ((show Tryz.prog.funcNamed "byre/byrelaw20.ModelRefuses" = some 4 by kernel_rfl).symm.trans hf) |>.symm
   obtain rfl:fn = Tryz.f4:=(Option.some.inj (Tryz.func4.symm.trans hfn)).symm
   exact ⟨by kernel_rfl,fun j t ht=>by
    rw [Tryz.params4] at ht
    have hm:t∈[26,27]:=by simpa using Array.mem_of_getElem? ht
    have jX:([26,27].all fun u=>!Tryz.prog.wantsStandIn u) = true:=by kernel_rfl
    exact (show Tryz.prog.wantsStandIn t = false by simpa using List.all_eq_true.1 jX t hm)⟩)
  (by kernel_rfl)
#print axioms modelRefuses_card
end Go.Proofs.YtfoleblcaloeoaaGreatDoor
