import Derived.Test.YtfoleblcaloeoaaGreatDoorZap
import Derived.Test.YtfoleblcaloeoaaGreatDoorZaj
import Derived.Shelf.SlMaps.Clone
import Derived.Test.YtfoleblcaloeoaaGreatDoorTie
import Derived.LaidMore
import Derived.Lay
import Derived.MakeChecks
set_option maxHeartbeats 40000000
set_option maxRecDepth 20000
namespace Go.Proofs.YtfoleblcaloeoaaGreatDoor
open Go Go.RowKit
theorem neqF1 (k:FuncId) (caps:Array Value) (w:World):(binOp .neq 84 (.func (.func k) #[] caps) .nilFunc).run Tryz.prog w = .ok (.bool true) w:=by kernel_rfl
theorem neqF0 (w:World):(binOp .neq 84 .nilFunc .nilFunc).run Tryz.prog w = .ok (.bool false) w:=by kernel_rfl
variable {v:Value} {w:World}
theorem RB.own_lt {l:List Nat} (h:RB w v l) (hl:l≠[]):∀k∈own v,k < w.heap.size:=fun k hk=>by
 have hp:0 < l.length:=List.length_pos_iff.2 hl
 obtain ⟨A,c,rfl⟩:=RE.form h
 obtain ⟨g,off,rfl⟩:=RE.addr h hp
 rw [fd] at hk
 obtain rfl:=aa hk
 exact World.block_lt_of_cell? w _ (RE.cell gk h (k:=0) (j:=0) hp (by omega) rfl)
variable {ov:Int→Value} {GF:Int→Nat→Prop} {gb:Int→Nat} {fp fo fe:Int→Option Value} {M:Mo}
theorem iT {m:Nat} {bp bo be:Nat} (hI:MIn w m M bp bo be fp fo fe gb GF ov) (x:Cl) (v:Nat) :
  ∀b∈(cj M x v).1.l,b < 256:=by
 have nl:∀(R:Rs × Option Mo),R.1.l = []→∀b∈R.1.l,b < 256:=fun R h b hb=>by rw [h] at hb;cases hb
 have nl2:∀(R:Rs),R.l = []→∀b∈R.l,b < 256:=fun R h b hb=>by rw [h] at hb;cases hb
 unfold cj;split
 ·refine nl _ ?_;unfold jf;split <;> rfl
 split
 ·refine nl _ ?_;unfold jg;split <;> rfl
 split
 ·unfold gj;cases hb:M.ob x.h with
  | none=>first | exact nl _ rfl | exact nl2 _ rfl
  | some B =>
   simp only;split
   ·first | exact nl _ rfl | exact nl2 _ rfl
   split
   ·first | exact nl _ rfl | exact nl2 _ rfl
   split
   ·intro b h;exact (hI.ob _ _ hb).2.1 b (List.mem_of_mem_drop (List.mem_of_mem_take h))
   ·first | exact nl _ rfl | exact nl2 _ rfl
 split
 ·first | exact nl _ rfl | exact nl2 _ rfl
 cases hp:M.pr x.p with
 | none=>first | exact nl _ rfl | exact nl2 _ rfl
 | some p =>
  simp only;unfold dc;split
  ·first | exact nl _ rfl | exact nl2 _ rfl
  split
  ·first | exact nl _ rfl | exact nl2 _ rfl
  split
  ·first | exact nl _ rfl | exact nl2 _ rfl
  split
  ·first | exact nl _ rfl | exact nl2 _ rfl
  split
  ·obtain ⟨d,FA,qp,qo,gp',go',gp,hP,-,-⟩:=hI.pr x.p p hp;unfold dt;simp only;split
   ·first | exact nl _ rfl | exact nl2 _ rfl
   split
   ·split
    ·first | exact nl _ rfl | exact nl2 _ rfl
    ·intro b h;have h1:=List.mem_of_mem_drop (List.mem_of_mem_take h);cases hg:p.pg (x.a / 256) with
     | none =>
      rw [hg] at h1;have h2:b∈zeroPg:=h1;unfold zeroPg at h2;rw [List.mem_replicate] at h2;omega
     | some B =>
      rw [hg] at h1;exact (hP.pg _ _ hg).b8 b h1
   ·split <;> (first | exact nl _ rfl | exact nl2 _ rfl)
  split
  ·first | exact nl _ rfl | exact nl2 _ rfl
  split
  ·first | exact nl _ rfl | exact nl2 _ rfl
  split <;> (first | exact nl _ rfl | exact nl2 _ rfl)
variable {u:Value} {r:Rs} {x:Cl}
theorem cM {m:Nat} {O:Nat→Prop} (h:MMem w m M O) (hf:FW w) (hx:x.Ok) (hv:RB w v x.l) (hr:r.Ok) (hu:RB w u r.l) :
  Calls Tryz.prog 11 #[.pointer (some ⟨m,0,none⟩),.agg (clc x v),.agg (rsc r u)] w fun e w'=>e = .returned (.bool (jn M x r))∧CP O w w'∧∃O',MMem w' m (ie M x r) O'∧∀k,O' k→O k∨w.heap.size≤k:=by
 obtain ⟨X,hX1,hX2⟩:∃X:List Nat,(x.l≠[]→∀k∈own v,k∈X)∧∀k∈X,k < w.heap.size:=by
  by_cases h:x.l = []
  ·exact ⟨[],fun h2=>absurd h h2,fun k hk=>by cases hk⟩
  ·exact ⟨own v,fun _ k hk=>hk,RB.own_lt hv h⟩
 obtain ⟨A0,c0,rfl⟩:=RE.form hv;obtain ⟨A1,c1,rfl⟩:=RE.form hu;have HM:=bk h;obtain ⟨bp,bo,be,fp,fo,fe,gb,GF,ov,hI,hO,hl⟩:=h;obtain ⟨W2,kJ⟩:∃W2,W2 = (w.alloc (.cells (clc x (.slice A0 x.l.length c0)) 47)).alloc (.cells (rsc r (.slice A1 r.l.length c1)) 40):=⟨_,rfl⟩;have kI:Chg [] w W2:=by rw [kJ];exact ((av [] w).alloc _).alloc _
 have lZ:KB W2 w.heap.size x (.slice A0 x.l.length c0):=by rw [kJ];exact (ax w _ _).alloc _
 have qQ:XB W2 (w.heap.size+1) r (.slice A1 r.l.length c1):=by
  have:=ax (w.alloc (.cells (clc x (.slice A0 x.l.length c0)) 47)) 40 (rsc r (.slice A1 r.l.length c1));rw [af] at this;rw [kJ];exact this
 obtain ⟨b4,e4⟩:∃b,b = w.heap.size:=⟨_,rfl⟩;obtain ⟨b5,e5⟩:∃b,b = w.heap.size+1:=⟨_,rfl⟩;rw [← e5] at qQ;rw [← e4] at lZ;have HE:=bk (ai e4 e5);have HI:=bk (fun W (h:Chg [] W2 W)=>hI.stay (kI.stay h));have lG:=bk (fun W (h:Chg [] W2 W)=>bh lZ h);have oB:=bk (fun W (h:Chg [] W2 W)=>bf qQ h);have lE:=bk kI;have kW:=bk kJ;have vU:=bk (fun W (h:Chg [] W2 W)=>hf.stay (kI.stay h));have HV:=bk (fun W (h:Chg [] W2 W)=>RE.stay hv (kI.stay h));have HU:=bk (fun W (h:Chg [] W2 W)=>RE.stay hu (kI.stay h));have HX:=bk hx;have xC:=bk hr;have DM:=bk (ai hX1 hX2);have oO:=bk (fun e W=>li e W);have zN:=bk (iT hI x r.v);have nE:=bk (show ∀W,Chg [] W2 W→CP O w W∧∃O',MMem W m M O'∧∀k,O' k→O k∨w.heap.size≤k from fun W hW=>⟨CP.of0 (kI.stay hW),O,HM.out.stay (kI.stay hW),fun k hk=>.inl hk⟩);have Br:=bk (tw (HI.out W2 (av _ _)).blk);clear hI hO hl hv hu hx hr hX1 hX2 hf lZ qQ kI kJ e4 e5;obtain ⟨SB,DZ⟩:∃b,b = jn M x r:=⟨_,rfl⟩;obtain ⟨SM,Ea⟩:∃N,N = ie M x r:=⟨_,rfl⟩;rw [← DZ,← Ea];have sE:=bk DZ;have uA:=bk Ea;clear DZ Ea;go_enter Tryz.func11,Tryz.ntmps11;go_upto_region 1 with (first|refine cc rfl _ rfl rfl ?_;try simp only [af]|refine gd rfl _ rfl rfl ?_;try simp only [af];try rw [← kW.out])
 rw [← HE.out.2,← HE.out.1];go_wp2_with fail;refine Br.out.mono ?_;rintro e W2' ⟨rfl,rfl⟩;cases hw:dr M.c x with
 | true =>
  have e1:SB = ed r (bw 2):=by rw [sE.out];unfold jn;rw [ah hw]
  have e2:SM = M:=by rw [uA.out];unfold ie;rw [ah (.inl hw)]
  subst e1 e2;have vZ:=bk (fun W (h:Chg [] W2 W)=>xe (vU.out W h) SM.c HX.out (HV.out W h));rw [hw] at vZ;clear hw;go_upto_region 3 with (fail)
  refine rgt [0,0,0,5,5,3,0] [none,none,none,none,none,none,none] (fun W=>Chg [] W2 W) ?_;have hS:Chg [] W2 W2.drew:=(av [] W2).drew;have lm:=(HI.out _ hS).blk.lt;generalize W2.drew = W0 at hS lm ⊢;go_wp2_with (first|refine ca 26 _ rfl rfl (fun w' kK=>aI (HI.out w' kK).blk) hS ?_|refine ca 47 _ rfl rfl (fun w' kK=>KB.load (lG.out w' kK)) hS ?_|refine dy fun K U=>?_;go_simp;refine (vZ.out W0 hS).mono ?_;rintro e W3 ⟨rfl,kM⟩;refine U _ _ ?_;clear U K;have kL:=bk (hS.stay kM);clear kM hS lm;obtain ⟨c0',-,-,-,-,-,-,-,-,-,-,-,l4,-⟩:=ay (lG.out W3 kL.out);obtain ⟨p0,-,-,l5,-⟩:=XB.cells (oB.out W3 kL.out)|refine cdA fun K U=>?_|refine bn fun K U=>?_;go_simp|refine bq ?_);refine rgt [5,6,3,0] [none,none,none,none] (fun W=>Chg [] W2 W) ?_;have hS:=kL.out.drew;generalize W3.drew = W4 at hS ⊢;go_wp2_with (first|refine ca 40 _ rfl rfl (fun w' kK=>XB.load (oB.out w' kK)) hS ?_|refine cdA fun K U=>?_|refine bn fun K U=>?_;go_simp|refine bq ?_);(refine cd hS fun K U=>?_);go_simp;refine (oO.out 2 _).mono ?_;rintro e W5 ⟨rfl,kE⟩;have pB:=hS.stay kE;refine U _ _ pB ?_;clear U K kE;go_wp2_with (first|refine dy fun K U=>?_;go_simp;refine (ta (y:=bw 2) (HU.out W5 pB) (RE.nil ucl 1 _ none 0) xC.out.l (fun _ h=>by cases h)).mono ?_;rintro e W6 ⟨rfl,kF⟩;refine U _ _ ?_;clear U K|refine cdA fun K U=>?_|refine bn fun K U=>?_;go_simp|refine bq ?_);go_ret;exact ⟨rfl,nE.out _ (pB.stay kF)⟩
 | false =>
  have nY:=bk hw;have vZ:=bk (fun W (h:Chg [] W2 W)=>xe (vU.out W h) M.c HX.out (HV.out W h));rw [hw] at vZ;clear hw;go_upto_region 3 with (fail)
  refine rgt [0,0,0,5,5,3,0] [none,none,none,none,none,none,none] (fun W=>Chg [] W2 W) ?_;have hS:Chg [] W2 W2.drew:=(av [] W2).drew;have lm:=(HI.out _ hS).blk.lt;generalize W2.drew = W0 at hS lm ⊢;go_wp2_with (first|refine ca 26 _ rfl rfl (fun w' kK=>aI (HI.out w' kK).blk) hS ?_|refine ca 47 _ rfl rfl (fun w' kK=>KB.load (lG.out w' kK)) hS ?_|refine dy fun K U=>?_;go_simp;refine (vZ.out W0 hS).mono ?_;rintro e W3 ⟨rfl,kM⟩;refine U _ _ ?_;clear U K;have kL:=bk (hS.stay kM);clear kM hS lm;obtain ⟨c0',-,-,-,-,-,-,-,-,-,-,-,l4,-⟩:=ay (lG.out W3 kL.out);obtain ⟨p0,-,-,l5,-⟩:=XB.cells (oB.out W3 kL.out)|refine cdA fun K U=>?_|refine bn fun K U=>?_;go_simp|refine bq ?_);refine (free_any x.k r.e W3).mono ?_;rintro e W3' ⟨rfl,rfl⟩;cases vM:gi x.k r.e with
  | true =>
   have e1:SB = ed r (bw r.e):=(by rw [sE.out];unfold jn;rw [ag (by rw [nY.out];decide),ah vM]);have e2:SM = M:=(by rw [uA.out];unfold ie;rw [ah (.inr (.inl vM))]);subst e1 e2;clear vM c0' l4 p0 l5;go_upto_region 6 with (fail)
   refine rgt [5,0,5,6,3,0] [none,none,none,none,none,none] (fun W=>Chg [] W2 W) ?_;have hS:=kL.out.drew;generalize W3.drew = W4 at hS ⊢;go_wp2_with (first|refine ca 40 _ rfl rfl (fun w' kK=>XB.load (oB.out w' kK)) hS ?_|refine ca 31 _ rfl rfl (fun w' kK=>dg Tryz.underlying31 (XB.cells (oB.out w' kK)).1) hS ?_|refine cdA fun K U=>?_|refine bn fun K U=>?_;go_simp|refine bq ?_);(refine cd hS fun K U=>?_);go_simp;refine (oO.out r.e _).mono ?_;rintro e W5 ⟨rfl,kE⟩;have pB:=hS.stay kE;refine U _ _ pB ?_;clear U K kE;go_wp2_with (first|refine dy fun K U=>?_;go_simp;refine (ta (y:=bw r.e) (HU.out W5 pB) (RE.nil ucl 1 _ none 0) xC.out.l (fun _ h=>by cases h)).mono ?_;rintro e W6 ⟨rfl,kF⟩;refine U _ _ ?_;clear U K|refine cdA fun K U=>?_|refine bn fun K U=>?_;go_simp|refine bq ?_);go_ret;exact ⟨rfl,nE.out _ (pB.stay kF)⟩
  | false =>
   have HFR:=bk vM;clear vM c0' l4 p0 l5;go_wp2_with (first|refine dk rfl _ rfl rfl (lG.out W3 kL.out) ?_|refine ef rfl _ rfl rfl (oB.out W3 kL.out) ?_);refine (eR (X:=X) (HM.out.stay (lE.out.stay kL.out)) HX.out (HV.out W3 kL.out) DM.out.1 (fun k hk=>al (DM.out.2 k hk) (lE.out.stay kL.out).size) nY.out xC.out.v).mono ?_;rintro e W4 ⟨⟨A,n,c,f,rfl,pZ,-,heff⟩,kZ⟩;have lA:=bk (kL.out.stay kZ);have zS:=bk kZ;have CU:=bk pZ;have sO:=bk heff;clear pZ heff kZ;obtain ⟨RR,lJ⟩:∃R,R = cj M x r.v:=⟨_,rfl⟩;rw [← lJ] at CU sO zN;rw [← lJ];have kH:=bk lJ;clear lJ;go_wp2_with (first|refine ck rfl rfl ?_;try go_simp|refine bu (b:=W4.heap.size) (y:=RR.1) (u:=.slice A n c) rfl _ _ rfl rfl rfl rfl (ax W4 _ _) ?_;intro W6 h6 kF;have H6:=bk h6;have zT:=bk (wo kF);clear h6 kF|refine ef rfl _ rfl rfl (oB.out W6 (lA.out.stay zT.out)) ?_|refine ef (b:=W4.heap.size) rfl _ rfl rfl H6.out ?_);refine (ta (HU.out W6 (lA.out.stay zT.out)) (CU.out.stay zT.out) xC.out.l zN.out).mono ?_;rintro e W7 ⟨rfl,kN⟩;have HC47:=bk (zT.out.stay kN);have qD:=bk (lA.out.stay (zT.out.stay kN));clear kN;have ebN:=show SB = ed r RR.1 by rw [sE.out];unfold jn;rw [ag (by rw [nY.out];decide),ag (by rw [HFR.out];decide),kH.out]
   cases pV:ed r RR.1 with
   | false =>
    have e1:SB = false:=(by rw [ebN,pV]);have e2:SM = M:=(by rw [uA.out];unfold ie;rw [← kH.out,ah (.inr (.inr (.inl pV)))]);subst e1 e2;clear pV ebN;go_wp2_with fail;go_ret;exact ⟨rfl,nE.out _ qD.out⟩
   | true =>
    have e1:SB = true:=(by rw [ebN,pV]);have e2:SM = if r.e = 0 then RR.2.getD M else M:=by
     rw [uA.out];unfold ie;rw [← kH.out];by_cases h:r.e = 0
     ·rw [ah h,ag];rintro (h1 | h1 | h1 | h1)
      ·rw [nY.out] at h1;cases h1
      ·rw [HFR.out] at h1;cases h1
      ·rw [pV] at h1;cases h1
      ·exact h1 h
     ·rw [ag h,ah (.inr (.inr (.inr h)))]
    subst e1;have wZ:=bk e2;clear pV ebN e2;obtain ⟨R1,N⟩:=RR;obtain ⟨p0,-,-,l5,-⟩:=XB.cells (oB.out W7 qD.out);cases N with
    | none =>
     obtain rfl:f = .nilFunc:=sO.out;have hq:=fun w=>neqF0 w;have e2:SM = M:=(by rw [wZ.out];split <;> rfl);subst e2;go_wp2_with fail;go_ret;exact ⟨rfl,nE.out _ qD.out⟩
    | some M' =>
     obtain ⟨k,caps,rfl,Ic,Cr⟩:=sO.out;replace Ic:=Ic caps;have Gi:=bk Cr;clear Cr;have hq:=fun w=>neqF1 k caps w;by_cases hz:r.e = 0
     ·have e2:SM = M':=(by rw [wZ.out,ah hz];rfl);subst e2;rw [hz] at p0;clear hz;go_wp2_with fail;refine (Gi.out [] W7 (Off.nil _ _ _) HC47.out).mono ?_;rintro e W8 ⟨rfl,k1,O',k2,k3⟩;go_wp2_with fail;go_ret;have mW:=(lE.out.stay kL.out).size;obtain ⟨L,g1,g2⟩:=k1;exact ⟨rfl,⟨L,(((lE.out.stay qD.out).up L).and_ g1),fun k hk=>(by
       rcases g2 k hk with (h | h) | h
       ·exact .inl h
       ·exact .inr (by omega)
       ·exact .inr (au (lE.out.stay qD.out).size h))⟩,O',k2,fun k hk=>(k3 k hk).imp id (au mW)⟩
     ·have e2:SM = M:=(by rw [wZ.out,ag hz]);subst e2;have d0:(r.e == 0) = false:=aj hz;have d1:decide (r.e = 0) = false:=ac hz;clear hz;go_wp2_with fail;go_ret;exact ⟨rfl,nE.out _ qD.out⟩
theorem ma (r:Rs) (hw:dr M.c x = false):jn M x r = if gi x.k r.e = true then ed r (bw r.e) else ed r (cj M x r.v).1:=by unfold jn;rw [ag (by rw [hw];decide)]
theorem uh (hw:dr M.c x = false) (hf:gi x.k r.e = false) (hs:ed r (cj M x r.v).1 = true) (he:r.e = 0):ie M x r = ((cj M x r.v).2).getD M:=by
 unfold ie;rw [ag];rintro (h | h | h | h)
 ·rw [hw] at h;cases h
 ·rw [hf] at h;cases h
 ·rw [hs] at h;cases h
 ·exact h he
theorem eB (h:jn M x r = false):ie M x r = M:=by
 unfold ie;by_cases hw:dr M.c x = true
 ·rw [ah (.inl hw)]
 by_cases hf:gi x.k r.e = true
 ·rw [ah (.inr (.inl hf))]
 rw [ma r (by simpa using hw),ag hf] at h;rw [ah (.inr (.inr (.inl h)))]
structure MS (W0:World) (L:List Nat) (w:World) (m:Nat) (M:Mo):Prop where
 mem:∃O,MMem w m M O∧(∀k,O k→W0.heap.size≤k)∧∀k∈L,¬ O k
 lt:∀k∈L,k < w.heap.size
 chg:Chg [] W0 w
theorem MS.stay {W0 w w':World} {L:List Nat} {m:Nat} {M:Mo} (h:MS W0 L w m M) (hc:Chg [] w w'):MS W0 L w' m M:=by obtain ⟨⟨O,h1,h2,h3⟩,h4,h5⟩:=h;exact ⟨⟨O,h1.stay hc,h2,h3⟩,fun k hk=>al (h4 k hk) hc.size,h5.stay hc⟩
variable {c:Cf} {L:List Nat}
theorem New_ms {W0:World} (hc:mayB c = true) (h0:Chg [] W0 w) (hL:∀k∈L,k < w.heap.size) :
  Calls Tryz.prog 8 #[.agg (cg c)] w fun e w'=>(∃m,e = .returned (.tuple #[.pointer (some ⟨m,0,none⟩),.int .i64 0])∧MS W0 L w' m (np c))∧Chg [] w w':=by
 refine (gS hc).mono ?_;rintro e w' ⟨⟨m,rfl,O,h1,h2⟩,h3⟩;exact ⟨⟨m,rfl,⟨O,h1,fun k hk=>au h0.size (h2 k hk),fun k hk ho=>by have:=hL k hk;have:=h2 k ho;omega⟩,fun k hk=>al (hL k hk) h3.size,h0.stay h3⟩,h3⟩
def Kept (L:List Nat) (W0 w w':World):Prop:=∃F,Chg F w w'∧∀k∈F,k∉L∧W0.heap.size≤k
theorem ph {W0:World} {m:Nat} (h:MS W0 L w m M) (hf:FW W0) (hx:x.Ok) (hv:RB w v x.l) (hr:r.Ok) (hu:RB w u r.l) :
  Calls Tryz.prog 11 #[.pointer (some ⟨m,0,none⟩),.agg (clc x v),.agg (rsc r u)] w fun e w'=>e = .returned (.bool (jn M x r))∧MS W0 L w' m (ie M x r)∧Kept L W0 w w':=by
 obtain ⟨⟨O,h1,h2,h3⟩,h4,h5⟩:=h;refine (cM h1 (hf.stay h5) hx hv hr hu).mono ?_;rintro e w' ⟨rfl,⟨F,g1,g2⟩,O',k2,k3⟩;have mW:=h5.size;refine ⟨rfl,⟨⟨O',k2,fun k hk=>(k3 k hk).elim (h2 k) (fun h=>by omega),fun k hk ho=>(k3 k ho).elim (h3 k hk) (fun h=>by have:=h4 k hk;omega)⟩,fun k hk=>al (h4 k hk) g1.size,h5.trans g1 (fun k hk=>.inr ((g2 k hk).elim (h2 k) (fun h=>by omega)))⟩,F,g1,fun k hk=>⟨fun hm=>(g2 k hk).elim (h3 k hm) (fun h=>by have:=h4 k hm;omega),(g2 k hk).elim (h2 k) (fun h=>by omega)⟩⟩
structure BC (l:List (Nat × Value)) (x:Cl) (v:Value):Prop where
 h:Tryz.prog.built 47 l = some (clc x v)
section
variable {ops:Array Oper} {rest:List Oper} {o:Oper} {a:Act} {w:World} {Q:Exit→Act→World→Prop} {x:Cl} {v:Value}
theorem cq (parts:Array (Nat × Operand)) (ho:o.op = .build 47 parts)
  {l:List (Nat × Value)} (hw:Region.wanted o (yielded ops a.tmps) = true) (hb:BC l x v) (hl:(parts.map fun (i,x)=>(i,a.eval x)).toList = l) (h:wpList Tryz.prog ops Q rest (a.put o.dst (.agg (clc x v))) w):wpList Tryz.prog ops Q (o :: rest) a w :=
 wpList_step fun K U=>by
  rw [ah hw]
  exact wp_build 47 parts ho (by rw [hl,hb.h];rfl) (U _ _ (by rw [hl,hb.h];exact h))
end
theorem nw_of (hm:mayB c = true) (hk:mg x = true) (h1:t1K x = false) (h2:t2K x = false) (h3:t3K x = false) (h4:hasB x 110 = false) (h5:hasB x 111 = false) (h6:t6K x = false) (h7:t7K x = false) (h8:t8K x = false):dr c x = false:=by
 have e4:t4K c x = false:=by unfold t4K;rw [h4];rfl
 have e5:t5K c x = false:=by unfold t5K;rw [h5];rfl
 unfold dr;simp [hm,hk,h1,h2,h3,e4,e5,h6,h7,h8]
def oneC0:Cf:=fun i=>if i = 0 then 1 else if i = 1 then 1 else if i = 90 then 4 else 0
def sq:Cf:=fun i=>if i = 18 then 4 else oneC0 i
theorem iX:BT [(0,.int .i64 1),(1,.int .i64 1),(5,.int .i64 4)] oneC0:=⟨by kernel_rfl⟩
theorem one_may:jx sq where
 n1:=by decide
 n8:=by decide
 p1:=by decide
 p16:=by decide
 s0:=by decide
 s1:=by decide
 home:=by decide
 home0:=by decide
 fr:=by decide
 fr0:=by decide
 ds0:=fun i k hi hk=>(by decide:∀i:Nat,i < 8→∀k:Nat,k < 8→sq 0≤(i:Int)∨sq 0≤(k:Int)∨i = k→sq (26+i * 8+k) = 0) i hi k hk
 ds1:=fun i k hi hk=>fun h1 h2 h3=>(by decide:∀i:Nat,i < 8→∀k:Nat,k < 8→((i:Int) < sq 0∧(k:Int) < sq 0∧¬ i = k)→(1≤sq (26+i * 8+k)∧sq (26+i * 8+k)≤255∧sq (26+i * 8+k) = sq (26+k * 8+i))) i hi k hk ⟨h1,h2,h3⟩
 mi:=by decide
 lo:=by decide
 hi:=by decide
theorem jd:mayB sq = true:=mayB_iff.2 one_may
theorem one_any (w:World):Calls Tryz.prog 25 #[] w fun e w'=>e = .returned (.agg (cg sq))∧Chg [] w w':=by
 have HR:Hid (CB ((w.alloc (.cells (cg (fun _=>0)) 26)).alloc (.cells (cg (fun _=>0)) 26)) w.heap.size (fun _=>0)):=bk ((ax w 26 _).alloc _);have HB:Hid (CB ((w.alloc (.cells (cg (fun _=>0)) 26)).alloc (.cells (cg (fun _=>0)) 26)) (w.heap.size+1) (fun _=>0)):=bk (by
  have:=ax (w.alloc (.cells (cg (fun _=>0)) 26)) 26 (cg (fun _=>0))
  rwa [af] at this)
 have HC:Hid (Chg [] w ((w.alloc (.cells (cg (fun _=>0)) 26)).alloc (.cells (cg (fun _=>0)) 26))):=bk (((av [] w).alloc _).alloc _);obtain ⟨D0,hD0⟩:∃D0,D0 = oneC0:=⟨_,rfl⟩;have HT:=bk iX;rw [← hD0] at HT;have HD0:=bk hD0;obtain ⟨D,hD⟩:∃D,D = sq:=⟨_,rfl⟩;rw [← hD];have HD:=bk hD;clear hD0 hD;go_enter Tryz.func25,Tryz.ntmps25;go_wp2_with (first|refine rm rfl rfl ?_;try simp only [af]|refine yn rfl _ rfl HT.out ?_ ?_;(focus (simp [Act.eval];done))|refine qw (b:=w.heap.size+1) (c:=fun _=>0) rfl _ _ rfl rfl rfl ?_ ?_;(focus exact HB.out);intro W5 h5 kE;have q18:=CB.get h5 (i:=18) (by omega);have f18:=Blk.frozen h5 18;have H5:=bk h5;have kU:=bk kE;have CT:=bk (HR.out.chg kE (by simp));have hl5:w.heap.size+1 < W5.heap.size:=h5.lt;clear h5 kE|refine dd (b:=w.heap.size+1) (c:=D) rfl _ rfl rfl ?_ ?_;(focus (rw [HD.out];have:=CB.set H5.out 18 4;rw [HD0.out] at this;exact this))|refine qw (b:=w.heap.size) (c:=fun _=>0) rfl _ _ rfl rfl rfl ?_ ?_;(focus exact (Blk.far CT.out (by simp) _));intro W6 h6 kF);refine bodyPost_ret (v:=.agg (cg D)) (results_cell_row (p:=0) (ty:=26) rfl _ _ w.heap.size 26 _ (0,0) _ rfl h6 Tryz.underlying26 rfl nj) rfl ⟨rfl,?_⟩;have c9:=kU.out.setCell (p:=⟨w.heap.size+1,18,none⟩) (.inl (by simp)) (.int .i64 4);exact (HC.out.trans c9 (fun x hx=>.inr (by obtain rfl:=aa hx;omega))).trans kF (fun x hx=>.inr (by obtain rfl:=aa hx;omega))
def cSp:Cl:={ zCl with k:=1 }
def cMm (g c:Int) (r:Nat):Cl:={ zCl with k:=3,p:=1,g:=g,c:=c,r:=r }
def cLd (a s:Int):Cl:={ zCl with k:=8,p:=1,a:=a,s:=s }
def cKm:Cl:={ zCl with k:=10,s:=8 }
theorem sp_built:BC [(0,.int .u8 1)] cSp zV:=⟨by kernel_rfl⟩
theorem km_built:BC [(0,.int .u8 10),(6,.int .i64 8)] cKm zV:=⟨by kernel_rfl⟩
theorem jM:BC [(0,.int .u8 3),(1,.int .i64 1),(4,.int .i64 2),(7,.int .u8 3)] (cMm 0 2 3) zV:=⟨by kernel_rfl⟩
theorem jJ:BC [(0,.int .u8 8),(1,.int .i64 1),(5,.int .i64 5),(6,.int .i64 2)] (cLd 5 2) zV:=⟨by kernel_rfl⟩
theorem sp_ok:cSp.Ok:=by constructor <;> simp [cSp,zCl]
theorem km_ok:cKm.Ok:=by constructor <;> simp [cKm,zCl]
theorem mm0_ok:(cMm 0 2 3).Ok:=by constructor <;> simp [cMm,zCl]
theorem ld0_ok:(cLd 5 2).Ok:=by constructor <;> simp [cLd,zCl]
theorem sp_nw (h:mayB c = true):dr c cSp = false:=nw_of h (by decide) (by decide) (by decide) (by decide) (by decide) (by decide) (by decide) (by decide) (by decide)
theorem km_nw (h:mayB c = true):dr c cKm = false:=nw_of h (by decide) (by decide) (by decide) (by decide) (by decide) (by decide) (by decide) (by decide) (by decide)
theorem mm0_nw (h:mayB c = true):dr c (cMm 0 2 3) = false:=nw_of h (by decide) (by decide) (by decide) (by decide) (by decide) (by decide) (by decide) (by decide) (by decide)
theorem ld0_nw (h:mayB c = true):dr c (cLd 5 2) = false:=nw_of h (by decide) (by decide) (by decide) (by decide) (by decide) (by decide) (by decide) (by decide) (by decide)
theorem aS {e:Int} {v:Nat} (h1:0≤e∧e≤1000) (h2:v < 18446744073709551616):(⟨e,v,[]⟩:Rs).Ok:=⟨⟨by show _≤e;omega,by show e≤_;omega⟩,h2,fun _ h=>by cases h⟩
def K1:Mo:={ np sq with pr:=upd (fun _=>none) 1 (some jv) }
def K3:Mo:={ K1 with pr:=upd K1.pr 1 (some (db jv (cMm 0 2 3)).2) }
def K6:Mo:={ K3 with ob:=upd K3.ob (7:Nat) (some (List.replicate 8 0)),ev:=upd K3.ev (7:Nat) true }
theorem k1:jn (np sq) cSp ⟨0,1,[]⟩ = true∧ie (np sq) cSp ⟨0,1,[]⟩ = K1:=by refine ⟨by rw [ma _ (sp_nw jd)];rfl,by rw [uh (sp_nw jd) rfl rfl rfl];rfl⟩
theorem k2:jn K1 cSp ⟨0,3,[]⟩ = false:=by rw [ma _ (sp_nw jd)];rfl
theorem k3:jn K1 (cMm 0 2 3) ⟨0,0,[]⟩ = true∧ie K1 (cMm 0 2 3) ⟨0,0,[]⟩ = K3 :=
 ⟨by rw [ma _ (mm0_nw jd)];rfl,by rw [uh (mm0_nw jd) rfl rfl rfl];rfl⟩
theorem k4:jn K3 (cLd 5 2) ⟨0,0,[0,0]⟩ = true∧ie K3 (cLd 5 2) ⟨0,0,[0,0]⟩ = K3 :=
 ⟨by rw [ma _ (ld0_nw jd)];rfl,by rw [uh (ld0_nw jd) rfl rfl rfl];rfl⟩
theorem k5:jn K3 cKm ⟨0,0,[]⟩ = false:=by rw [ma _ (km_nw jd)];rfl
theorem k6:jn K3 cKm ⟨0,7,[]⟩ = true∧ie K3 cKm ⟨0,7,[]⟩ = K6 :=
 ⟨by rw [ma _ (km_nw jd)];rfl,by rw [uh (km_nw jd) rfl rfl rfl];rfl⟩
theorem k7:jn K6 cKm ⟨0,7,[]⟩ = false:=by rw [ma _ (km_nw jd)];rfl
theorem jH (hf:FW w):Calls Tryz.prog 7 #[] w fun e w'=>e = .returned (.bool true)∧Chg [] w w':=by have HF:=bk hf;have D1:=bk sp_built;have D3:=bk jM;have D4:=bk jJ;have D5:=bk km_built;have E0:=bk br_0;have E1:=bk (br_v 1);have E3:=bk (br_v 3);have E7:=bk (br_v 7);have HO:=bk (fun W=>one_any W);clear hf;go_enter Tryz.func7,Tryz.ntmps7;go_wp2_with fail;refine (HO.out _).mono ?_;rintro e W0 ⟨rfl,nG⟩;have xV:=bk nG;clear nG;go_wp2_with fail;refine (New_ms (L:=[]) jd xV.out (fun k hk=>by cases hk)).mono ?_;rintro e W0' ⟨⟨m,rfl,hms⟩,-⟩;have HM0:=bk hms;clear hms;go_wp2_with (first|refine cq _ rfl ?_ D1.out ?_ ?_;(focus (simp [Region.wanted,yielded,Act.put];done));(focus (simp [Act.eval,Act.put];done))|refine cq _ rfl ?_ D3.out ?_ ?_;(focus (simp [Region.wanted,yielded,Act.put];done));(focus (simp [Act.eval,Act.put];done))|refine cq _ rfl ?_ D5.out ?_ ?_;(focus (simp [Region.wanted,yielded,Act.put];done));(focus (simp [Act.eval,Act.put];done))|refine cq _ rfl ?_ D4.out ?_ ?_;(focus (simp [Region.wanted,yielded,Act.put];done));(focus (simp [Act.eval,Act.put];done))|refine cm _ rfl ?_ E1.out ?_ ?_;(focus (simp [Region.wanted,yielded,Act.put];done));(focus (simp [Act.eval,Act.put];done))|refine cm _ rfl ?_ E3.out ?_ ?_;(focus (simp [Region.wanted,yielded,Act.put];done));(focus (simp [Act.eval,Act.put];done))|refine cm _ rfl ?_ E7.out ?_ ?_;(focus (simp [Region.wanted,yielded,Act.put];done));(focus (simp [Act.eval,Act.put];done))|refine cm _ rfl ?_ E0.out ?_ ?_;(focus (simp [Region.wanted,yielded,Act.put];done));(focus (simp [Act.eval,Act.put];done)));refine (ph (r:=⟨0,1,[]⟩) HM0.out HF.out sp_ok (RE.nil ucl 1 _ none 0) (aS (by omega) (by omega)) (RE.nil ucl 1 _ none 0)).mono ?_;rintro e W1 ⟨rfl,hms,-⟩;rw [k1.1];rw [k1.2] at hms;have Fh:=bk hms;clear hms;go_wp2_with (first|refine cq _ rfl ?_ D1.out ?_ ?_;(focus (simp [Region.wanted,yielded,Act.put];done));(focus (simp [Act.eval,Act.put];done))|refine cq _ rfl ?_ D3.out ?_ ?_;(focus (simp [Region.wanted,yielded,Act.put];done));(focus (simp [Act.eval,Act.put];done))|refine cq _ rfl ?_ D5.out ?_ ?_;(focus (simp [Region.wanted,yielded,Act.put];done));(focus (simp [Act.eval,Act.put];done))|refine cq _ rfl ?_ D4.out ?_ ?_;(focus (simp [Region.wanted,yielded,Act.put];done));(focus (simp [Act.eval,Act.put];done))|refine cm _ rfl ?_ E1.out ?_ ?_;(focus (simp [Region.wanted,yielded,Act.put];done));(focus (simp [Act.eval,Act.put];done))|refine cm _ rfl ?_ E3.out ?_ ?_;(focus (simp [Region.wanted,yielded,Act.put];done));(focus (simp [Act.eval,Act.put];done))|refine cm _ rfl ?_ E7.out ?_ ?_;(focus (simp [Region.wanted,yielded,Act.put];done));(focus (simp [Act.eval,Act.put];done))|refine cm _ rfl ?_ E0.out ?_ ?_;(focus (simp [Region.wanted,yielded,Act.put];done));(focus (simp [Act.eval,Act.put];done)));refine (ph (r:=⟨0,3,[]⟩) Fh.out HF.out sp_ok (RE.nil ucl 1 _ none 0) (aS (by omega) (by omega)) (RE.nil ucl 1 _ none 0)).mono ?_;rintro e W2 ⟨rfl,hms,-⟩;rw [k2];rw [eB k2] at hms;have HM2:=bk hms;clear hms;go_wp2_with (first|refine cq _ rfl ?_ D1.out ?_ ?_;(focus (simp [Region.wanted,yielded,Act.put];done));(focus (simp [Act.eval,Act.put];done))|refine cq _ rfl ?_ D3.out ?_ ?_;(focus (simp [Region.wanted,yielded,Act.put];done));(focus (simp [Act.eval,Act.put];done))|refine cq _ rfl ?_ D5.out ?_ ?_;(focus (simp [Region.wanted,yielded,Act.put];done));(focus (simp [Act.eval,Act.put];done))|refine cq _ rfl ?_ D4.out ?_ ?_;(focus (simp [Region.wanted,yielded,Act.put];done));(focus (simp [Act.eval,Act.put];done))|refine cm _ rfl ?_ E1.out ?_ ?_;(focus (simp [Region.wanted,yielded,Act.put];done));(focus (simp [Act.eval,Act.put];done))|refine cm _ rfl ?_ E3.out ?_ ?_;(focus (simp [Region.wanted,yielded,Act.put];done));(focus (simp [Act.eval,Act.put];done))|refine cm _ rfl ?_ E7.out ?_ ?_;(focus (simp [Region.wanted,yielded,Act.put];done));(focus (simp [Act.eval,Act.put];done))|refine cm _ rfl ?_ E0.out ?_ ?_;(focus (simp [Region.wanted,yielded,Act.put];done));(focus (simp [Act.eval,Act.put];done)));refine (ph (r:=⟨0,0,[]⟩) HM2.out HF.out mm0_ok (RE.nil ucl 1 _ none 0) (aS (by omega) (by omega)) (RE.nil ucl 1 _ none 0)).mono ?_;rintro e W3 ⟨rfl,hms,-⟩;rw [k3.1];rw [k3.2] at hms;have HM3:=bk hms;clear hms;go_wp2_with (first|refine cq _ rfl ?_ D1.out ?_ ?_;(focus (simp [Region.wanted,yielded,Act.put];done));(focus (simp [Act.eval,Act.put];done))|refine cq _ rfl ?_ D3.out ?_ ?_;(focus (simp [Region.wanted,yielded,Act.put];done));(focus (simp [Act.eval,Act.put];done))|refine cq _ rfl ?_ D5.out ?_ ?_;(focus (simp [Region.wanted,yielded,Act.put];done));(focus (simp [Act.eval,Act.put];done))|refine cq _ rfl ?_ D4.out ?_ ?_;(focus (simp [Region.wanted,yielded,Act.put];done));(focus (simp [Act.eval,Act.put];done))|refine cm _ rfl ?_ E1.out ?_ ?_;(focus (simp [Region.wanted,yielded,Act.put];done));(focus (simp [Act.eval,Act.put];done))|refine cm _ rfl ?_ E3.out ?_ ?_;(focus (simp [Region.wanted,yielded,Act.put];done));(focus (simp [Act.eval,Act.put];done))|refine cm _ rfl ?_ E7.out ?_ ?_;(focus (simp [Region.wanted,yielded,Act.put];done));(focus (simp [Act.eval,Act.put];done))|refine cm _ rfl ?_ E0.out ?_ ?_;(focus (simp [Region.wanted,yielded,Act.put];done));(focus (simp [Act.eval,Act.put];done))|refine cm _ rfl ?_ (br_l (some ⟨W3.heap.size,0,none⟩) 2 2 [0,0]) ?_ ?_;(focus (simp [Region.wanted,yielded,Act.put];done));(focus (simp [Act.eval,Act.put];done)));refine (ph (r:=⟨0,0,[0,0]⟩) (HM3.out.stay ((av [] W3).alloc _)) HF.out ld0_ok (RE.nil ucl 1 _ none 0) ⟨by decide,by decide,by decide⟩ (ur W3 5 1 2 (fc ucl [0,0]) rfl)).mono ?_;rintro e W4 ⟨rfl,hms,-⟩;rw [k4.1];rw [k4.2] at hms;have HM4:=bk hms;clear hms;go_wp2_with (first|refine cq _ rfl ?_ D1.out ?_ ?_;(focus (simp [Region.wanted,yielded,Act.put];done));(focus (simp [Act.eval,Act.put];done))|refine cq _ rfl ?_ D3.out ?_ ?_;(focus (simp [Region.wanted,yielded,Act.put];done));(focus (simp [Act.eval,Act.put];done))|refine cq _ rfl ?_ D5.out ?_ ?_;(focus (simp [Region.wanted,yielded,Act.put];done));(focus (simp [Act.eval,Act.put];done))|refine cq _ rfl ?_ D4.out ?_ ?_;(focus (simp [Region.wanted,yielded,Act.put];done));(focus (simp [Act.eval,Act.put];done))|refine cm _ rfl ?_ E1.out ?_ ?_;(focus (simp [Region.wanted,yielded,Act.put];done));(focus (simp [Act.eval,Act.put];done))|refine cm _ rfl ?_ E3.out ?_ ?_;(focus (simp [Region.wanted,yielded,Act.put];done));(focus (simp [Act.eval,Act.put];done))|refine cm _ rfl ?_ E7.out ?_ ?_;(focus (simp [Region.wanted,yielded,Act.put];done));(focus (simp [Act.eval,Act.put];done))|refine cm _ rfl ?_ E0.out ?_ ?_;(focus (simp [Region.wanted,yielded,Act.put];done));(focus (simp [Act.eval,Act.put];done)));refine (ph (r:=⟨0,0,[]⟩) HM4.out HF.out km_ok (RE.nil ucl 1 _ none 0) (aS (by omega) (by omega)) (RE.nil ucl 1 _ none 0)).mono ?_;rintro e W5 ⟨rfl,hms,-⟩;rw [k5];rw [eB k5] at hms;have rE:=bk hms;clear hms;go_wp2_with (first|refine cq _ rfl ?_ D1.out ?_ ?_;(focus (simp [Region.wanted,yielded,Act.put];done));(focus (simp [Act.eval,Act.put];done))|refine cq _ rfl ?_ D3.out ?_ ?_;(focus (simp [Region.wanted,yielded,Act.put];done));(focus (simp [Act.eval,Act.put];done))|refine cq _ rfl ?_ D5.out ?_ ?_;(focus (simp [Region.wanted,yielded,Act.put];done));(focus (simp [Act.eval,Act.put];done))|refine cq _ rfl ?_ D4.out ?_ ?_;(focus (simp [Region.wanted,yielded,Act.put];done));(focus (simp [Act.eval,Act.put];done))|refine cm _ rfl ?_ E1.out ?_ ?_;(focus (simp [Region.wanted,yielded,Act.put];done));(focus (simp [Act.eval,Act.put];done))|refine cm _ rfl ?_ E3.out ?_ ?_;(focus (simp [Region.wanted,yielded,Act.put];done));(focus (simp [Act.eval,Act.put];done))|refine cm _ rfl ?_ E7.out ?_ ?_;(focus (simp [Region.wanted,yielded,Act.put];done));(focus (simp [Act.eval,Act.put];done))|refine cm _ rfl ?_ E0.out ?_ ?_;(focus (simp [Region.wanted,yielded,Act.put];done));(focus (simp [Act.eval,Act.put];done)));refine (ph (r:=⟨0,7,[]⟩) rE.out HF.out km_ok (RE.nil ucl 1 _ none 0) (aS (by omega) (by omega)) (RE.nil ucl 1 _ none 0)).mono ?_;rintro e W6 ⟨rfl,hms,-⟩;rw [k6.1];rw [k6.2] at hms;have BS:=bk hms;clear hms;go_wp2_with (first|refine cq _ rfl ?_ D1.out ?_ ?_;(focus (simp [Region.wanted,yielded,Act.put];done));(focus (simp [Act.eval,Act.put];done))|refine cq _ rfl ?_ D3.out ?_ ?_;(focus (simp [Region.wanted,yielded,Act.put];done));(focus (simp [Act.eval,Act.put];done))|refine cq _ rfl ?_ D5.out ?_ ?_;(focus (simp [Region.wanted,yielded,Act.put];done));(focus (simp [Act.eval,Act.put];done))|refine cq _ rfl ?_ D4.out ?_ ?_;(focus (simp [Region.wanted,yielded,Act.put];done));(focus (simp [Act.eval,Act.put];done))|refine cm _ rfl ?_ E1.out ?_ ?_;(focus (simp [Region.wanted,yielded,Act.put];done));(focus (simp [Act.eval,Act.put];done))|refine cm _ rfl ?_ E3.out ?_ ?_;(focus (simp [Region.wanted,yielded,Act.put];done));(focus (simp [Act.eval,Act.put];done))|refine cm _ rfl ?_ E7.out ?_ ?_;(focus (simp [Region.wanted,yielded,Act.put];done));(focus (simp [Act.eval,Act.put];done))|refine cm _ rfl ?_ E0.out ?_ ?_;(focus (simp [Region.wanted,yielded,Act.put];done));(focus (simp [Act.eval,Act.put];done)));refine (ph (r:=⟨0,7,[]⟩) BS.out HF.out km_ok (RE.nil ucl 1 _ none 0) (aS (by omega) (by omega)) (RE.nil ucl 1 _ none 0)).mono ?_;rintro e W7 ⟨rfl,hms,-⟩;rw [k7];have HM7:=bk hms;clear hms;go_wp2_with fail;go_ret;exact ⟨rfl,HM7.out.chg⟩
theorem aY {m:Nat} {bp bo be:Nat} (hI:MIn w m M bp bo be fp fo fe gb GF ov) (pid:Int) :
  Calls Tryz.prog 23 #[.pointer (some ⟨m,0,none⟩),.int .i64 pid] w fun e w'=>e = .returned (.bool (M.pr pid).isSome)∧w = w':=by
 have Br:=bk (tw hI.blk);have qE:=sd hI pid;obtain ⟨qp,-,-,qm,-⟩:=eq hI.blk;clear hI;cases hp:M.pr pid with
 | none =>
  rw [hp] at qE;clear hp;go_enter Tryz.func23,Tryz.ntmps23;go_wp2_with fail;refine Br.out.mono ?_;rintro e W2 ⟨rfl,rfl⟩;go_wp2_with fail;go_ret;exact ⟨rfl,rfl⟩
 | some p =>
  rw [hp] at qE;clear hp;go_enter Tryz.func23,Tryz.ntmps23;go_wp2_with fail;refine Br.out.mono ?_;rintro e W2 ⟨rfl,rfl⟩;go_wp2_with fail;go_ret;exact ⟨rfl,rfl⟩
theorem pd (w:World):SB (w.alloc (.cells #[] 5)) (.slice (some ⟨w.heap.size,0,none⟩) 0 0) []:=pf w 5 1
def NewB (w w':World) (l:List Nat) (e:Ending):Prop:=∃A n c,e = .returned (.slice A n c)∧SB w' (.slice A n c) l∧∀k∈own (.slice A n c),w.heap.size≤k
section
variable {ops:Array Oper} {rest:List Oper} {o:Oper} {a:Act} {w:World} {Q:Exit→Act→World→Prop}
theorem vi {t kt e:TypeId} {k:IntKind} {b:Nat} {f:Int→Option Value} (hg:o.guard = none) (x:Operand) (ho:o.op = .range t x) (ht:Tryz.prog.underlying t = some (.map kt e)) (hx:a.eval x = .map (some b)) (h:MapB w b k f)
  (U:∀w' n,MapIt w' b w.heap.size k f (fun z=>(f z).isSome) n→Chg [] w w'→w'.heap.size = w.heap.size+1→wpList Tryz.prog ops Q rest (a.put o.dst (.pointer (some ⟨w.heap.size,0,none⟩))) w'):wpList Tryz.prog ops Q (o :: rest) a w :=
 wpList_plain hg fun _ hk=>cG x ho ht hx h fun w' n h1 h2 h3=>hk _ _ (U w' n h1 h2 h3)
theorem wf {k:IntKind} {b r n:Nat} {f:Int→Option Value} {left:Int→Bool} (hg:o.guard = none) (x:Operand) (ho:o.op = .next x false) (hx:a.eval x = .pointer (some ⟨r,0,none⟩)) (h:MapIt w b r k f left n)
  (hD:n = 0→(∀z,left z = false)→wpList Tryz.prog ops Q rest (a.put o.dst (.tuple #[.bool false])) w)
  (hM:∀z v w' n',left z = true→f z = some v→MapIt w' b r k f (fun y=>left y && !(y == z)) n'→n' < n→Chg [r] w w'→w'.heap.size = w.heap.size→(Instr.entry (.pointer (some ⟨r,0,none⟩))).run Tryz.prog w' = .ok (.tuple #[.int k z,v]) w'→wpList Tryz.prog ops Q rest (a.put o.dst (.tuple #[.bool true,.int k z,v])) w'):wpList Tryz.prog ops Q (o :: rest) a w :=
 wpList_plain hg fun _ hk=>eL x ho hx h (fun h1 h2=>hk _ _ (hD h1 h2)) fun z v w' n' h1 h2 h3 h4 h5 h6 h7=>hk _ _ (hM z v w' n' h1 h2 h3 h4 h5 h6 h7)
theorem zq {t kt et:TypeId} {q k:IntKind} {b:Nat} {f:Int→Option Value} (hg:o.guard = none) (x y z:Operand) (ho:o.op = .mapUpdate t x y z)
  (ht:Tryz.prog.underlying t = some (.map kt et)) (hk:Tryz.prog.underlying kt = some (.int q)) {key:Int} {val:Value} (hx:a.eval x = .map (some b)) (hy:a.eval y = .int k key) (hz:a.eval z = val) (h:MapB w b k f)
  (U:∀w',MapB w' b k (fun y=>if y = key then some val else f y)→Chg [b] w w'→wpList Tryz.prog ops Q rest (a.put o.dst undef) w'):wpList Tryz.prog ops Q (o :: rest) a w :=
 wpList_plain hg fun _ hkk=>ir x y z ho ht hk hx hy hz h fun w' h1 h2=>hkk _ _ (U w' h1 h2)
end
def jl (p:Pr) (n:Int):List Nat:=(p.pg n).getD zeroPg
section
variable {M:Mo} {g:Int} {rl:List Ar.Rn} {b:List Nat} {o:Nat}
end
@[irreducible] def sqc (g:Nat→Value):Array Value:=Array.ofFn (n:=4099) fun i=>g i
theorem lz (g:Nat→Value):(sqc g).size = 4099:=by unfold sqc;simp
variable {i:Nat}
theorem ug (g:Nat→Value) (h:i < 4099):(sqc g)[i]? = some (g i):=by unfold sqc;simp [h]
theorem wu {f g:Nat→Value} (h:∀q,q < 4099→f q = g q):sqc f = sqc g:=by unfold sqc;congr 1;funext i;rw [h i i.2]
theorem iN (g:Nat→Value) (i:Nat) (v:Value):(sqc g).setIfInBounds i v = sqc (fun q=>if q = i then v else g q):=by
 apply Array.ext_getElem?;intro j;rw [Array.getElem?_setIfInBounds];by_cases hj:j < 4099
 ·rw [ug _ hj,ug _ hj];by_cases e:i = j
  ·subst e;simp [lz,hj]
  ·rw [ag e,ag (by omega)]
 ·have h1:(sqc g)[j]? = none:=Array.getElem?_eq_none (by rw [lz];omega);have h2:(sqc (fun q=>if q = i then v else g q))[j]? = none:=Array.getElem?_eq_none (by rw [lz];omega);rw [h1,h2,lz];split
  ·rename_i e;rw [ag (by omega)]
  ·rfl
structure Sq where
 rt:Int→Int
 by_:Int→Option Nat
 ow:Nat→Bool
 po:Nat→Nat × Nat
 ak:Nat
 am:Nat
def sqv (s:Sq) (bm:Nat) (i:Nat):Value :=
 if i < 1024 then .int .u8 (s.rt (i:Nat)) else if i = 1024 then .map (some bm) else if i < 2049 then .bool (s.ow (i - 1025))
 else if i < 4097 then (if (i - 2049) % 2 = 0 then .int .u8 (s.po ((i - 2049) / 2)).1 else .int .u8 (s.po ((i - 2049) / 2)).2)
 else if i = 4097 then .int .u8 s.ak else .int .u8 s.am
def upN {α:Type} (f:Nat→α) (i:Nat) (v:α):Nat→α:=fun j=>if j = i then v else f j
abbrev QB (w:World) (b:Nat) (s:Sq) (bm:Nat):Prop:=Blk w b 100 (sqc (sqv s bm))
section
variable {w:World} {b:Nat} {s:Sq} {bm:Nat}
theorem QB.at_ (h:QB w b s bm) {i:Nat} (hi:i < 4099):w.cell? ⟨b,i,none⟩ = some (sqv s bm i):=(Blk.cell h i).trans (ug _ hi)
theorem QB.rt (h:QB w b s bm) {i:Nat} (hi:i < 1024):w.cell? ⟨b,i,none⟩ = some (.int .u8 (s.rt (i:Nat))):=by rw [QB.at_ h (by omega)];unfold sqv;rw [ah hi]
theorem QB.bmap (h:QB w b s bm):w.cell? ⟨b,1024,none⟩ = some (.map (some bm)):=by rw [QB.at_ h (by omega)];rfl
theorem QB.ow (h:QB w b s bm) {i:Nat} (hi:i < 1024):w.cell? ⟨b,1025+i,none⟩ = some (.bool (s.ow i)):=by rw [QB.at_ h (by omega)];unfold sqv;rw [ag (by omega),ag (by omega),ah (by omega),show 1025+i - 1025 = i by omega]
theorem QB.po (h:QB w b s bm) {i:Nat} (hi:i < 1024):w.cell? ⟨b,2049+i * 2,none⟩ = some (.int .u8 (s.po i).1)∧w.cell? ⟨b,2049+i * 2+1,none⟩ = some (.int .u8 (s.po i).2):=by
 constructor
 ·rw [QB.at_ h (by omega)];unfold sqv;rw [ag (by omega),ag (by omega),ag (by omega),ah (by omega),ah (by omega),show (2049+i * 2 - 2049) / 2 = i by omega]
 ·rw [QB.at_ h (by omega)];unfold sqv;rw [ag (by omega),ag (by omega),ag (by omega),ah (by omega),ag (by omega),show (2049+i * 2+1 - 2049) / 2 = i by omega]
theorem QB.all (h:QB w b s bm):w.cell? ⟨b,4097,none⟩ = some (.int .u8 s.ak)∧w.cell? ⟨b,4098,none⟩ = some (.int .u8 s.am) :=
 ⟨by rw [QB.at_ h (by omega)];rfl,by rw [QB.at_ h (by omega)];rfl⟩
theorem QB.set (h:QB w b s bm) {i:Nat} {v:Value} {s':Sq} {bm':Nat} (he:∀q,q < 4099→(if q = i then v else sqv s bm q) = sqv s' bm' q):QB (w.setCell ⟨b,i,none⟩ v) b s' bm':=by have:=Blk.set_ h i v;rw [iN,wu he] at this;exact this
theorem QB.set_ow (h:QB w b s bm) {i:Nat} (hi:i < 1024) (v:Bool):QB (w.setCell ⟨b,1025+i,none⟩ (.bool v)) b { s with ow:=upN s.ow i v } bm:=by
 refine QB.set h fun q hq=>?_;unfold sqv upN;dsimp only;by_cases e:q = 1025+i
 ·subst e;rw [ah rfl,ag (by omega),ag (by omega),ah (by omega),ah (by omega)]
 ·rw [ag e];by_cases h1:q < 1024
  ·rw [ah h1,ah h1]
  rw [ag h1,ag h1];by_cases h2:q = 1024
  ·rw [ah h2,ah h2]
  rw [ag h2,ag h2];by_cases h3:q < 2049
  ·rw [ah h3,ah h3,ag (by omega)]
  ·rw [ag h3,ag h3]
theorem QB.set_po (h:QB w b s bm) {i:Nat} (hi:i < 1024) (k m:Nat):QB ((w.setCell ⟨b,2049+i * 2,none⟩ (.int .u8 k)).setCell ⟨b,2049+i * 2+1,none⟩ (.int .u8 m)) b { s with po:=upN s.po i (k,m) } bm:=by
 have h1:QB (w.setCell ⟨b,2049+i * 2,none⟩ (.int .u8 k)) b { s with po:=upN s.po i (k,(s.po i).2) } bm:=by
  refine QB.set h fun q hq=>?_;unfold sqv upN;dsimp only;by_cases e:q = 2049+i * 2
  ·subst e;rw [ah rfl,ag (by omega),ag (by omega),ag (by omega),ah (by omega),ah (by omega),ah (by omega)]
  ·rw [ag e];by_cases c1:q < 1024
   ·rw [ah c1,ah c1]
   rw [ag c1,ag c1];by_cases c2:q = 1024
   ·rw [ah c2,ah c2]
   rw [ag c2,ag c2];by_cases c3:q < 2049
   ·rw [ah c3,ah c3]
   rw [ag c3,ag c3];by_cases c4:q < 4097
   ·rw [ah c4,ah c4];by_cases c5:(q - 2049) / 2 = i
    ·rw [ag (by omega),ag (by omega),ah c5,c5]
    ·rw [ag c5]
   ·rw [ag c4,ag c4]
 refine QB.set h1 fun q hq=>?_;unfold sqv upN;dsimp only;by_cases e:q = 2049+i * 2+1
 ·subst e;rw [ah rfl,ag (by omega),ag (by omega),ag (by omega),ah (by omega),ag (by omega),ah (by omega)]
 ·rw [ag e];by_cases c1:q < 1024
  ·rw [ah c1,ah c1]
  rw [ag c1,ag c1];by_cases c2:q = 1024
  ·rw [ah c2,ah c2]
  rw [ag c2,ag c2];by_cases c3:q < 2049
  ·rw [ah c3,ah c3]
  rw [ag c3,ag c3];by_cases c4:q < 4097
  ·rw [ah c4,ah c4];by_cases c5:(q - 2049) / 2 = i
   ·have c6:(q - 2049) % 2 = 0:=(by omega);simp [c5,c6]
   ·rw [ag c5,ag c5]
  ·rw [ag c4,ag c4]
theorem QB.set_all (h:QB w b s bm) (k m:Nat):QB ((w.setCell ⟨b,4097,none⟩ (.int .u8 k)).setCell ⟨b,4098,none⟩ (.int .u8 m)) b { s with ak:=k,am:=m } bm:=by
 have h1:QB (w.setCell ⟨b,4097,none⟩ (.int .u8 k)) b { s with ak:=k } bm:=by
  refine QB.set h fun q hq=>?_;unfold sqv;by_cases e:q = 4097
  ·subst e;rfl
  ·rw [ag e];rw [ag e,ag e]
 refine QB.set h1 fun q hq=>?_;unfold sqv;by_cases e:q = 4098
 ·subst e;rfl
 ·rw [ag e];by_cases c1:q < 1024
  ·rw [ah c1,ah c1]
  rw [ag c1,ag c1];by_cases c2:q = 1024
  ·rw [ah c2,ah c2]
  rw [ag c2,ag c2];by_cases c3:q < 2049
  ·rw [ah c3,ah c3]
  rw [ag c3,ag c3];by_cases c4:q < 4097
  ·rw [ah c4,ah c4]
  ·rw [ag c4,ag c4,ah (by omega),ah (by omega)]
theorem QB.set_bm (h:QB w b s bm) (bm':Nat):QB (w.setCell ⟨b,1024,none⟩ (.map (some bm'))) b s bm':=by
 refine QB.set h fun q hq=>?_;unfold sqv;by_cases e:q = 1024
 ·subst e;rfl
 ·rw [ag e,ag e,ag e]
theorem uf {t:TypeId}:∀(vs:List Value) (o:Nat) (w:World) (g:Nat→Value),Blk w b t (sqc g)→Blk (w.setCells b o vs) b t (sqc (fun q=>if o≤q∧q < o+vs.length then vs.getD (q - o) undef else g q))
 | [],o,w,g,h=>by
  rw [wu (g:=g) fun q _=>by rw [ag (by simp)]]
  exact h
 | v :: vs,o,w,g,h=>by
  have h1:=h.set_ o v
  rw [iN] at h1
  have h2:=uf vs (o+1) (w.setCell ⟨b,o,none⟩ v) _ h1
  unfold World.setCells
  rw [wu (g:=fun q=>if o+1≤q∧q < o+1+vs.length then vs.getD (q - (o+1)) undef else if q = o then v else g q) fun q _=>?_]
  ·exact h2
  ·rw [List.length_cons]
   by_cases e:q = o
   ·subst e
    rw [ah (by omega),ag (by omega),ah rfl,Nat.sub_self];rfl
   ·by_cases e2:o+1≤q∧q < o+1+vs.length
    ·rw [ah (by omega),ah e2,show q - o = (q - (o+1))+1 by omega];rfl
    ·rw [ag (by omega),ag e2,ag e]
theorem Chg.setCells {F:List Nat} {a:World} {c:Nat}:∀(vs:List Value) (o:Nat) (w:World),Chg F a w→(c∈F∨a.heap.size≤c)→Chg F a (w.setCells c o vs)
 | [],_,_,h,_=>h
 | v :: vs,o,w,h,hc=>Chg.setCells vs (o+1) _ (h.setCell (p:=⟨c,o,none⟩) hc v) hc
end
end Go.Proofs.YtfoleblcaloeoaaGreatDoor
namespace Go.Proofs.YtfoleblcaloeoaaGreatDoor.Ar
open Go Go.RowKit
@[irreducible] def pg (f:Int→Int):Array Value:=Array.ofFn (n:=1024) fun i=>.int .u8 (f i)
theorem ji (f:Int→Int):(pg f).size = 1024:=by unfold pg;simp
variable {i:Nat}
theorem pz (f:Int→Int) (h:i < 1024):(pg f)[i]? = some (.int .u8 (f i)):=by unfold pg;simp [h]
variable {f:Int→Int}
theorem ri {g:Int→Int} (h:∀q,0≤q→q < 1024→f q = g q):pg f = pg g:=by unfold pg;congr 1;funext i;rw [h i (by omega) (by omega)]
theorem va (f:Int→Int) (i:Nat) (v:Int):(pg f).setIfInBounds i (.int .u8 v) = pg (fun q=>if q = i then v else f q):=by
 apply Array.ext_getElem?;intro j;rw [Array.getElem?_setIfInBounds];by_cases hj:j < 1024
 ·rw [pz _ hj,pz _ hj];by_cases e:i = j
  ·subst e;simp [ji,hj]
  ·rw [ag e,ag (by omega)]
 ·have h1:(pg f)[j]? = none:=Array.getElem?_eq_none (by rw [ji];omega);have h2:(pg (fun q=>if q = i then v else f q))[j]? = none:=Array.getElem?_eq_none (by rw [ji];omega);rw [h1,h2,ji];split
  ·rename_i e;rw [ag (by omega)]
  ·rfl
theorem xx (f:Int→Int):(pg f).all (·.oneCell') = true:=by unfold pg;rw [Array.all_eq_true];intro i hi;simp [Value.oneCell']
structure RI (f:Int→Int) (k:Nat) (m:List Rn):Prop where
 nm:Nm 0 0 m
 all:∀q,rt m q = if 0≤q∧q < k then f q else 0
 le:(fin 0 0 m).1≤k
 at_:(fin 0 0 m).1 = k→(k = 0∧(fin 0 0 m).2 = 0)∨(0 < k∧(fin 0 0 m).2 = f ((k:Int) - 1))
 last:0 < k→f ((k:Int) - 1)≠0→m≠[]∧fin 0 0 m = ((k:Int),f ((k:Int) - 1))
 len:m.length≤k
theorem RI.zero (f:Int→Int):RI f 0 []:=⟨trivial,fun q=>by rw [ag (by omega)];rfl,Int.le_refl _,fun _=>.inl ⟨rfl,rfl⟩,fun h=>by omega,Nat.le_refl _⟩
variable {m:List Rn} {k:Nat}
theorem RI.skip (h:RI f k m) (h0:f k = 0):RI f (k+1) m:=by
 have e:((k+1:Nat):Int) - 1 = k:=by omega
 refine ⟨h.nm,fun q=>?_,by have:=h.le;omega,fun e=>by have:=h.le;omega,fun _ hn=>?_,by have:=h.len;omega⟩
 ·rw [h.all];by_cases hq:0≤q∧q < k
  ·rw [ah hq,ah (by omega)]
  ·rw [ag hq];by_cases mV:0≤q∧q < ((k+1:Nat):Int)
   ·rw [ah mV,show q = k by omega,h0]
   ·rw [ag mV]
 ·rw [e] at hn;exact absurd h0 hn
theorem RI.new (h:RI f k m) (h0:f k≠0) (h1:k = 0∨f ((k:Int) - 1)≠f k):RI f (k+1) (m ++ [⟨k,1,f k⟩]):=by
 have e:((k+1:Nat):Int) - 1 = k:=by omega
 have hn:Nm 0 0 (m ++ [⟨(k:Int),1,f k⟩]):=by
  rw [mh];refine ⟨h.nm,h.le,by show (1:Int)≤1;omega,h0,fun he=>?_⟩;show f k≠_;rcases h.at_ he.symm with ⟨a,b⟩ | ⟨a,b⟩
  ·rw [b];exact h0
  ·rw [b];rcases h1 with h1 | h1
   ·omega
   ·exact fun x=>h1 x.symm
 have hf:=iq 0 0 m ⟨(k:Int),1,f k⟩;have ee:(⟨(k:Int),1,f k⟩:Rn).e = ((k+1:Nat):Int):=by show (k:Int)+1 = _;omega
 rw [ee] at hf;refine ⟨hn,fun q=>?_,by rw [hf];exact Int.le_refl _,fun _=>.inr ⟨by omega,by rw [hf,e]⟩,fun _ _=>⟨by simp,by rw [hf,e]⟩,by have:=h.len;simp;omega⟩;rw [qd hn,ee,h.all];by_cases hq:(k:Int)≤q∧q < ((k+1:Nat):Int)
 ·rw [ah (c:=(k:Int)≤q∧q < ((k+1:Nat):Int)) hq,ah (by omega),show q = k by omega]
 ·rw [ag (c:=(k:Int)≤q∧q < ((k+1:Nat):Int)) hq];by_cases mV:0≤q∧q < k
  ·rw [ah mV,ah (by omega)]
  ·rw [ag mV,ag (by omega)]
theorem RI.more (h:RI f k m) (h0:f k≠0) (hk:0 < k) (h1:f ((k:Int) - 1) = f k):∃l x,m = l ++ [x]∧RI f (k+1) (l ++ [⟨x.p,x.c+1,x.g⟩])∧0≤x.c∧x.c≤(k:Int):=by
 have e:((k+1:Nat):Int) - 1 = k:=by omega
 obtain ⟨hm,hf⟩:=h.last hk (by rw [h1];exact h0);rcases List.eq_nil_or_concat m with rfl | ⟨l,x,rfl⟩
 ·exact absurd rfl hm
 rw [List.concat_eq_append] at h hf ⊢;have hn:=h.nm;rw [iq] at hf;have ER:x.p+x.c = k:=congrArg Prod.fst hf;have hxg:x.g = f k:=by rw [← h1];exact congrArg Prod.snd hf
 rw [mh] at hn;obtain ⟨n1,n2,n3,n4,n5⟩:=hn;have n6:=uu n1;have oU:Nm 0 0 (l ++ [⟨x.p,x.c+1,x.g⟩]):=by rw [mh];exact ⟨n1,n2,by show 1≤x.c+1;omega,n4,n5⟩
 have ee:(⟨x.p,x.c+1,x.g⟩:Rn).e = ((k+1:Nat):Int):=by show x.p+(x.c+1) = _;omega
 have ex:x.e = (k:Int):=ER;refine ⟨l,x,rfl,⟨oU,fun q=>?_,by rw [iq,ee];exact Int.le_refl _,fun _=>.inr ⟨by omega,by rw [iq,e];exact hxg⟩,fun _ _=>⟨by simp,by rw [iq,ee,e];rw [← hxg]⟩,by have:=h.len;simp at this ⊢;omega⟩,by omega,by omega⟩;have hr:=h.all q;rw [qd h.nm,ex] at hr;rw [qd oU,ee];show (if x.p≤q∧q < ((k+1:Nat):Int) then x.g else rt l q) = _;by_cases hq:q = k
 ·subst hq;rw [ah (by omega),ah (by omega),hxg]
 ·by_cases mV:x.p≤q∧q < k
  ·rw [ah mV] at hr;rw [ah (by omega),hr,ah (by omega),ah (by omega)]
  ·rw [ag mV] at hr;rw [ag (by omega),hr];by_cases Dd:0≤q∧q < k
   ·rw [ah Dd,ah (by omega)]
   ·rw [ag Dd,ag (by omega)]
theorem RI.done {l:List Rn} (h:RI f 1024 m) (hl:Nm 0 0 l) (hf:∀q,rt l q = if 0≤q∧q < 1024 then f q else 0):m = l :=
 nm_ext h.nm hl fun q=>by rw [h.all,hf];rfl
end Go.Proofs.YtfoleblcaloeoaaGreatDoor.Ar
namespace Go.Proofs.YtfoleblcaloeoaaGreatDoor
open Go Go.RowKit
open Ar (pg pz ji ri va xx)
abbrev PA (w:World) (b:Nat) (f:Int→Int):Prop:=Blk w b 95 (pg f)
variable {i b:Nat} {f:Int→Int} {w:World}
theorem PA.get (h:PA w b f) (hi:i < 1024):w.cell? ⟨b,i,none⟩ = some (.int .u8 (f i)):=(h.cell i).trans (pz f hi)
theorem infoA:(Tryz.prog.info? 95).map (·.size) = some (pg f).size:=by
 have h:(Tryz.prog.info? 95).map (·.size) = some 1024:=by kernel_rfl
 rw [ji];exact h
section
variable {ops:Array Oper} {rest:List Oper} {o:Oper} {a:Act} {w:World} {Q:Exit→Act→World→Prop} {b:Nat} {f g:Int→Int}
theorem eJ (hg:o.guard = none) (z:Operand) (ho:o.op = .box 95 z) (hx:a.eval z = .agg (pg f))
  (h:∀w',PA w' w.heap.size f→Chg [] w w'→wpList Tryz.prog ops Q rest (a.put o.dst (.pointer (some ⟨w.heap.size,0,none⟩))) w'):wpList Tryz.prog ops Q (o :: rest) a w :=
 Great.wpList_runTo hg _ rfl _ _ (by unfold execOp;simp only [ho,hx,Sem.run_bind,Instr.box,newVar,newRow,run_newObj_alloc,Sem.run_pure,Result.andThen_ok,Value.cells]) (h _ (ax w _ _) ((av [] w).alloc _))
end
theorem ye {l:List Ar.Rn} (hl:Ar.Nm 0 0 l) (hf:∀q,Ar.rt l q = if 0≤q∧q < 1024 then f q else 0) :
  Calls Tryz.prog 123 #[.agg (pg f)] w fun e w'=>e = .returned (.int .i64 l.length)∧Chg [] w w':=by
 have HD:Hid (∀m,Ar.RI f 1024 m→m = l):=bk fun m hm=>hm.done hl hf;clear hl hf;go_enter Tryz.func123,Tryz.ntmps123;go_wp2_with (refine eJ (f:=f) rfl _ rfl rfl ?_;intro W1 h1 kO;have H1:=bk h1;have lU:=bk kO;clear h1 kO);go_loopw [3,4] (fun n i wr=>∃(k:Nat) (m:List Ar.Rn),k≤1024∧i = .int .i64 k∧n = .int .i64 m.length∧Hid (Ar.RI f k m)∧Hid (Chg [] W1 wr)) (fun _ i _=>1024 - (intOf i).toNat)
 case atStart=>exact ⟨0,[],by omega,rfl,rfl,bk (Ar.RI.zero f),bk (av _ _)⟩
 case round =>
  obtain ⟨k,m,hk,rfl,rfl,FK,lN⟩:=hrel;have CV:=bk FK.out;have HC:=bk lN.out;have sX:=FK.out.len;clear FK lN;have rI:=(show PA wr w.heap.size f from H1.out.chg HC.out ab);have lpa:=rI.lt;obtain ⟨ml,Ev⟩:∃n,n = m.length:=⟨_,rfl⟩;rw [← Ev] at sX ⊢;have Gw:=bk Ev;clear Ev;by_cases hkt:k < 1024
  ·have dl:decide ((k:Int) < 1024) = true:=ae (by omega);have dl':decide (k < 1024) = true:=ae hkt;have i0:(0:Int)≤(k:Int):=(by omega);have i1:(k:Int) < 1024:=(by omega);have oW:IntKind.i64.wrap ((k:Int)+1) = (k:Int)+1:=(by rw [IntKind.wrap_i64];omega);have hwm:IntKind.i64.wrap ((ml:Int)+1) = (ml:Int)+1:=(by rw [IntKind.wrap_i64];omega);obtain ⟨x,hx⟩:∃x,x = f (k:Int):=⟨_,rfl⟩;have q0:=rI.get hkt;rw [← hx] at q0;have HX:=bk hx;have DD:=bk hkt;clear hx hk hkt sX;by_cases h0:x = 0
   ·subst h0;clear rI;go_upto_region 5 with (fail)
    refine rgt [0,0,1,0,0,0,0,0,0,0,0,1,0,0,1,0,0,0] [none,none,none,none,none,some (13,true),some (13,true),some (13,true),some (16,false),some (16,false),some (16,false),some (16,false),some (16,false),some (16,false),some (16,false),some (16,false),some (13,true),none] (fun _=>True) ?_;go_wp2_with (first|refine fj ?_ ?_;(focus (simp [gf,undef];done));go_simp|refine cdA fun K U=>?_|refine cx ?_;go_simp|refine cy ?_|refine bn fun K U=>?_;go_simp|refine bq ?_);go_roundw
    case rel=>exact ⟨k+1,m,by have:=DD.out;omega,by go_num,by rw [Gw.out],bk (CV.out.skip HX.out.symm),bk HC.out.drew⟩
    case measure=>have:=DD.out;simp [intOf];omega
   have n0:(x == 0) = false:=aj h0;have n0':(x != 0) = true:=(by simp [h0]);have CW:=bk h0;clear h0;by_cases oK:k = 0
   ·subst oK;clear rI;go_upto_region 5 with (fail)
    refine rgt [0,0,1,0,0,0,0,0,0,0,0,1,0,0,1,0,0,0] [none,none,none,none,none,some (13,true),some (13,true),some (13,true),some (16,false),some (16,false),some (16,false),some (16,false),some (16,false),some (16,false),some (16,false),some (16,false),some (13,true),none] (fun _=>True) ?_;go_wp2_with (first|refine fj ?_ ?_;(focus (simp [gf,undef];done));go_simp|refine cdA fun K U=>?_|refine cx ?_;go_simp|refine cy ?_|refine bn fun K U=>?_;go_simp|refine bq ?_);go_roundw
    case rel=>exact ⟨0+1,m ++ [⟨0,1,f 0⟩],by omega,by go_num,by rw [Gw.out];simp,bk (CV.out.new (by rw [← HX.out];exact CW.out) (.inl rfl)),bk HC.out.drew⟩
    case measure=>simp [intOf]
   have q1:=rI.get (i:=k - 1) (by have:=DD.out;omega);have ek:((k - 1:Nat):Int) = (k:Int) - 1:=(by omega);obtain ⟨y,hy⟩:∃y,y = f ((k:Int) - 1):=⟨_,rfl⟩;rw [ek,← hy] at q1;have HY:=bk hy;have j1:(0:Int)≤(k:Int) - 1:=(by omega);have j2:(k:Int) - 1 < 1024:=(by omega);have j3:((k:Int) - 1).toNat = k - 1:=(by omega);have j4:((k:Int) == 0) = false:=aj (by omega);have j5:decide (k = 0) = false:=ac oK;have j6:IntKind.i64.wrap ((k:Int) - 1) = (k:Int) - 1:=(by rw [IntKind.wrap_i64];omega);have oC:=bk oK;clear hy oK ek rI;by_cases Dg:y = x
   ·subst Dg;go_upto_region 5 with (fail)
    refine rgt [0,0,1,0,0,0,0,0,0,0,0,1,0,0,1,0,0,0] [none,none,none,none,none,some (13,true),some (13,true),some (13,true),some (16,false),some (16,false),some (16,false),some (16,false),some (16,false),some (16,false),some (16,false),some (16,false),some (13,true),none] (fun _=>True) ?_;go_wp2_with (first|refine fj ?_ ?_;(focus (simp [gf,undef];done));go_simp|refine cdA fun K U=>?_|refine cx ?_;go_simp|refine cy ?_|refine bn fun K U=>?_;go_simp|refine bq ?_);go_roundw
    case rel =>
     obtain ⟨l',r,e1,h2,-,-⟩:=CV.out.more (by rw [← HX.out];exact CW.out) (by have:=oC.out;omega) (by rw [← HY.out,← HX.out]);exact ⟨k+1,l' ++ [⟨r.p,r.c+1,r.g⟩],by have:=DD.out;omega,by go_num,by rw [Gw.out,e1];simp,bk h2,bk HC.out.drew⟩
    case measure=>have:=DD.out;simp [intOf];omega
   ·have n1:(y == x) = false:=aj Dg;have n1':(y != x) = true:=(by simp [Dg]);have HYX:=bk Dg;clear Dg;go_upto_region 5 with (fail)
    refine rgt [0,0,1,0,0,0,0,0,0,0,0,1,0,0,1,0,0,0] [none,none,none,none,none,some (13,true),some (13,true),some (13,true),some (16,false),some (16,false),some (16,false),some (16,false),some (16,false),some (16,false),some (16,false),some (16,false),some (13,true),none] (fun _=>True) ?_;go_wp2_with (first|refine fj ?_ ?_;(focus (simp [gf,undef];done));go_simp|refine cdA fun K U=>?_|refine cx ?_;go_simp|refine cy ?_|refine bn fun K U=>?_;go_simp|refine bq ?_);go_roundw
    case rel=>exact ⟨k+1,m ++ [⟨k,1,f k⟩],by have:=DD.out;omega,by go_num,by rw [Gw.out];simp,bk (CV.out.new (by rw [← HX.out];exact CW.out) (.inr (by rw [← HX.out,← HY.out];exact HYX.out))),bk HC.out.drew⟩
    case measure=>have:=DD.out;simp [intOf];omega
  ·obtain rfl:k = 1024:=(by omega);obtain rfl:ml = l.length:=(by rw [Gw.out,HD.out m CV.out]);clear hkt hk rI;go_wp2_with fail;go_ret;exact ⟨rfl,lU.out.stay HC.out⟩
structure RelP (p:Pr) (s:Sq):Prop where
 rt:∀q:Nat,q < 1024→s.rt q = Ar.rt p.rl q
 by_:∀a:Int,0≤a→a < 262144→(s.by_ a).getD 0 = (jl p (a / 256)).getD (a % 256).toNat 0
 b8:∀a v,s.by_ a = some v→v < 256
 ow:∀q:Nat,q < 1024→s.ow q = (p.ow q).isSome
 po:∀q:Nat,q < 1024→∀v,p.ow q = some v→s.po q = v
 ak:s.ak = p.pk
 am:s.am = p.pm
def byF (s:Sq):Int→Option Value:=fun z=>(s.by_ z).map fun x=>.int .u8 (x:Nat)
def spv (sp:Nat→Option Nat) (i:Nat):Value:=.pointer ((sp i).map fun b=>⟨b,0,none⟩)
def wmc (c:Cf) (sp:Nat→Option Nat) (vo ve:Value):Array Value:=cg c ++ #[spv sp 0,spv sp 1,spv sp 2,spv sp 3,spv sp 4,spv sp 5,spv sp 6,spv sp 7,spv sp 8,vo,ve]
abbrev WB (w:World) (m:Nat) (c:Cf) (sp:Nat→Option Nat) (vo ve:Value):Prop:=Blk w m 79 (wmc c sp vo ve)
theorem yh (c:Cf) (sp:Nat→Option Nat) (vo ve:Value):(wmc c sp vo ve).size = 105:=by unfold wmc;rw [Array.size_append,ga];rfl
theorem infoW (c:Cf) (sp:Nat→Option Nat) (vo ve:Value):(Tryz.prog.info? 79).map (·.size) = some (wmc c sp vo ve).size:=by
 have h:(Tryz.prog.info? 79).map (·.size) = some 105:=by kernel_rfl
 rw [yh];exact h
section
variable {w:World} {m:Nat} {c:Cf} {sp:Nat→Option Nat} {vo ve:Value}
theorem gI (i:Nat):(wmc c sp vo ve)[94+i]? = (#[spv sp 0,spv sp 1,spv sp 2,spv sp 3,spv sp 4,spv sp 5,spv sp 6,spv sp 7,spv sp 8,vo,ve]:Array Value)[i]?:=by unfold wmc;rw [Array.getElem?_append_right (by rw [ga];omega),ga,Nat.add_sub_cancel_left]
theorem WB.spc (h:WB w m c sp vo ve) {i:Nat} (hi:i < 9):w.cell? ⟨m,94+i,none⟩ = some (spv sp i):=by
 rw [Blk.cell h,gI]
 match i,hi with
 | 0,_=>rfl
 | 1,_=>rfl
 | 2,_=>rfl
 | 3,_=>rfl
 | 4,_=>rfl
 | 5,_=>rfl
 | 6,_=>rfl
 | 7,_=>rfl
 | 8,_=>rfl
theorem WB.voc (h:WB w m c sp vo ve):w.cell? ⟨m,103,none⟩ = some vo:=by rw [Blk.cell h,show 103 = 94+9 from rfl,gI];rfl
theorem WB.vec (h:WB w m c sp vo ve):w.cell? ⟨m,104,none⟩ = some ve:=by rw [Blk.cell h,show 104 = 94+10 from rfl,gI];rfl
theorem WB.c0 (h:WB w m c sp vo ve):w.cell? ⟨m,0,none⟩ = some (.int .i64 (c 0)):=by rw [Blk.cell h];unfold wmc;rw [Array.getElem?_append_left (by rw [ga];omega)];exact je c (by omega)
theorem WB.load26 (h:WB w m c sp vo ve):(loadVar 26 ⟨m,0,none⟩).run Tryz.prog w = .ok (.agg (cg c)) w:=by
 have hr:w.rangeAt m 0 (cg c).toList:=by
  have:=World.rangeAt_of_block (C:=wmc c sp vo ve) h 0 94;have e:((wmc c sp vo ve).extract 0 (0+94)).toList = (cg c).toList:=by unfold wmc;rw [show (0+94) = (cg c).size by rw [ga],Array.extract_append_left];simp
  rwa [e] at this
 have:=run_loadVar_mid (P:=Tryz.prog) w m 0 26 (cg c).toList _ hr Tryz.underlying26 rfl (by rw [Array.length_toList];exact nj);simpa using this
theorem bZ (i:Nat) (v:Value):(wmc c sp vo ve).setIfInBounds (94+i) v = cg c ++ (#[spv sp 0,spv sp 1,spv sp 2,spv sp 3,spv sp 4,spv sp 5,spv sp 6,spv sp 7,spv sp 8,vo,ve]:Array Value).setIfInBounds i v:=by unfold wmc;rw [Array.setIfInBounds_append_right (by rw [ga];omega),ga,Nat.add_sub_cancel_left]
theorem WB.set_sp (h:WB w m c sp vo ve) {i:Nat} (hi:i < 9) (o:Option Nat):WB (w.setCell ⟨m,94+i,none⟩ (.pointer (o.map fun b=>⟨b,0,none⟩))) m c (upN sp i o) vo ve:=by
 have:=Blk.set_ h (94+i) (.pointer (o.map fun b=>⟨b,0,none⟩));rw [bZ] at this;have e:cg c ++ (#[spv sp 0,spv sp 1,spv sp 2,spv sp 3,spv sp 4,spv sp 5,spv sp 6,spv sp 7,spv sp 8,vo,ve]:Array Value).setIfInBounds i (.pointer (o.map fun b=>⟨b,0,none⟩)) = wmc c (upN sp i o) vo ve:=by
  unfold wmc;congr 1
  match i,hi with
  | 0,_=>rfl
  | 1,_=>rfl
  | 2,_=>rfl
  | 3,_=>rfl
  | 4,_=>rfl
  | 5,_=>rfl
  | 6,_=>rfl
  | 7,_=>rfl
  | 8,_=>rfl
 rw [e] at this;exact this
theorem WB.set_vo (h:WB w m c sp vo ve) (v:Value):WB (w.setCell ⟨m,103,none⟩ v) m c sp v ve:=by have:=Blk.set_ h (94+9) v;rw [bZ] at this;exact this
theorem WB.set_ve (h:WB w m c sp vo ve) (v:Value):WB (w.setCell ⟨m,104,none⟩ v) m c sp vo v:=by have:=Blk.set_ h (94+10) v;rw [bZ] at this;exact this
end
structure Ob where
 h:Nat
 l:List Nat
 v:Value
def obl (o:Ob):List Value:=[.int .u64 o.h,o.v]
theorem mj (o:Ob):(obl o).length = 2:=rfl
structure OIn (w:World) (vo:Value) (L:List Ob) (ob:Int→Option (List Nat)):Prop where
 sl:SE obl 2 92 w vo L
 bt:∀o∈L,SB w o.v o.l∧(∀x∈o.l,x < 256)∧o.h < 18446744073709551616
 nd:L.Pairwise fun a b=>a.h≠b.h
 ap:L.Pairwise fun a b=>∀k∈own a.v,k∉own b.v
 lk:∀z:Int,ob z = (L.find? fun o=>decide ((o.h:Int) = z)).map (·.l)
structure EIn (w:World) (ve:Value) (E:List Nat) (ev:Int→Bool):Prop where
 sl:SW w ve E
 e64:∀e∈E,e < 18446744073709551616
 lk:∀z:Int,ev z = E.any fun e=>decide ((e:Int) = z)
structure WIn (w:World) (m:Nat) (M:Mo) (sp:Nat→Option Nat) (vo ve:Value) (L:List Ob) (E:List Nat) (gb gm:Nat→Nat) (gs:Nat→Sq):Prop where
 blk:WB w m M.c sp vo ve
 ob:OIn w vo L M.ob
 ev:EIn w ve E M.ev
 sp:∀n:Nat,n < 9→sp n = (M.pr n).map fun _=>gb n
 rng:∀z p,M.pr z = some p→1≤z∧z≤8
 pr:∀(n:Nat) p,M.pr n = some p→QB w (gb n) (gs n) (gm n)∧MapB w (gm n) .i64 (byF (gs n))∧RelP p (gs n)
 ib:∀(n n':Nat) p p',M.pr n = some p→M.pr n' = some p'→n≠n'→gb n≠gb n'∧gm n≠gm n'
def FW' (M:Mo) (m:Nat) (vo ve:Value) (L:List Ob) (gb gm:Nat→Nat) (k:Nat):Prop :=
 k = m∨k∈own vo∨k∈own ve∨(∃o∈L,k∈own o.v)∨∃n p,M.pr (n:Nat) = some p∧(k = gb n∨k = gm n)
variable {v:Value}
theorem SE.cp {α:Type} {enc:α→List Value} {size:Nat} {e:TypeId} {F:Nat→Prop} {w':World} {l:List α} (h:SE enc size e w v l) (hc:CP F w w') (hg:∀k∈own v,¬ F k):SE enc size e w' v l:=by obtain ⟨G,h1,h2⟩:=hc.avoid (own v) hg h.own_lt;exact h.chg h1 h2
theorem OIn.cp {F:Nat→Prop} {w w':World} {vo:Value} {L:List Ob} {ob:Int→Option (List Nat)} (h:OIn w vo L ob) (hc:CP F w w') (h1:∀k∈own vo,¬ F k) (h2:∀o∈L,∀k∈own o.v,¬ F k):OIn w' vo L ob :=
 ⟨h.sl.cp hc h1,fun o ho=>⟨SB.cp (h.bt o ho).1 hc (h2 o ho),(h.bt o ho).2⟩,h.nd,h.ap,h.lk⟩
theorem EIn.cp {F:Nat→Prop} {w w':World} {ve:Value} {E:List Nat} {ev:Int→Bool} (h:EIn w ve E ev) (hc:CP F w w') (h1:∀k∈own ve,¬ F k):EIn w' ve E ev :=
 ⟨SE.cp h.sl hc h1,h.e64,h.lk⟩
theorem WIn.cp {G:Nat→Prop} {w w':World} {m:Nat} {M:Mo} {sp:Nat→Option Nat} {vo ve:Value} {L:List Ob} {E:List Nat} {gb gm:Nat→Nat} {gs:Nat→Sq} (h:WIn w m M sp vo ve L E gb gm gs) (hc:CP G w w') (hg:∀k,FW' M m vo ve L gb gm k→¬ G k):WIn w' m M sp vo ve L E gb gm gs :=
 { blk:=Blk.cp h.blk hc (hg _ (.inl rfl)),ob:=h.ob.cp hc (fun k hk=>hg k (.inr (.inl hk))) (fun o ho k hk=>hg k (.inr (.inr (.inr (.inl ⟨o,ho,hk⟩))))),ev:=h.ev.cp hc (fun k hk=>hg k (.inr (.inr (.inl hk)))),sp:=h.sp,rng:=h.rng,
   pr:=fun n p hp=>⟨Blk.cp (h.pr n p hp).1 hc (hg _ (.inr (.inr (.inr (.inr ⟨n,p,hp,.inl rfl⟩))))),(h.pr n p hp).2.1.cp hc (hg _ (.inr (.inr (.inr (.inr ⟨n,p,hp,.inr rfl⟩))))),(h.pr n p hp).2.2⟩,ib:=h.ib }
variable {sp:Nat→Option Nat} {M:Mo}
theorem WIn.stay {w':World} {m:Nat} {vo ve:Value} {L:List Ob} {E:List Nat} {gb gm:Nat→Nat} {gs:Nat→Sq} (h:WIn w m M sp vo ve L E gb gm gs) (hc:Chg [] w w'):WIn w' m M sp vo ve L E gb gm gs:=h.cp (CP.of0 (F:=fun _=>False) hc) (fun _ _ h=>h)
structure Tw where
 x:Cl
 v:Value
 r:Rs
 u:Value
 rt:Bool
 h:Nat
def twl (t:Tw):List Value:=(clc t.x t.v).toList ++ ((rsc t.r t.u).toList ++ [.bool t.rt,.int .u64 t.h])
theorem uj (t:Tw):(twl t).length = 17:=rfl
structure TwOk (w:World) (t:Tw):Prop where
 x:t.x.Ok
 r:t.r.Ok
 v:RB w t.v t.x.l
 u:RB w t.u t.r.l
 h:t.h < 18446744073709551616
theorem TwOk.stay {w w':World} {t:Tw} (h:TwOk w t) (hc:Chg [] w w'):TwOk w' t:=⟨h.x,h.r,h.v.stay hc,h.u.stay hc,h.h⟩
def sz (t:Tw):Bool:=decide (t.x.l.length≤300) && decide (t.r.l.length≤300)
def wa (l:List Tw) (n:Nat):Bool:=decide (l.length≤n) && l.all sz
variable {u:Value} {k:Nat} {l:List Tw}
theorem ui {g off n c:Nat} (h:RE twl 17 w (.slice (some ⟨g,off,none⟩) n c) l) (hk:k < l.length) {j:Nat} (hj:j < 17) (hu:(twl l[k])[j]? = some u):w.cell? ⟨g,off+k * 17+j,none⟩ = some u :=
 RE.cell uj h hk hj hu
theorem tame_any {V:Value} (hV:RE twl 17 w V l) (hO:∀t∈l,TwOk w t) {n:Nat} (hn:n≤100) :
  Calls Tryz.prog 6 #[V,.int .i64 n] w fun e w'=>e = .returned (.bool (wa l n))∧w = w':=by
 obtain ⟨A,c,rfl⟩:=RE.form hV;obtain ⟨R,hR⟩:∃R,R = wa l n:=⟨_,rfl⟩;rw [← hR];have HR:=bk hR;have HV:=bk hV;have HO:=bk hO;clear hR hV hO;by_cases hl:n < l.length
 ·have d1:decide ((n:Int) < (l.length:Int)) = true:=ae (by omega);have d1':decide (n < l.length) = true:=ae hl;have e:R = false:=by rw [HR.out];unfold wa;rw [ac (by omega)];rfl
  subst e;clear hl;go_enter Tryz.func6,Tryz.ntmps6;go_wp2_with fail;go_ret;(first | exact ⟨rfl,rfl⟩ | exact ⟨rfl,trivial⟩)
 have d1:decide ((n:Int) < (l.length:Int)) = false:=ac (by omega);have d1':decide (n < l.length) = false:=ac hl;have HL:=bk hl;have vN:l.length≤100:=by omega
 clear hl;go_enter Tryz.func6,Tryz.ntmps6;go_upto_region 4 with (fail)
 clear d1 d1';go_loopw [12] (fun i wr=>wr = w∧∃k:Nat,k≤l.length∧i = .int .i64 k∧Hid ((l.take k).all sz = true)) (fun i _=>l.length - (intOf i).toNat)
 case atStart=>exact ⟨rfl,0,by omega,rfl,bk rfl⟩
 case round =>
  obtain ⟨rfl,k,hk,rfl,kY⟩:=hrel;by_cases nC:k < l.length
  ·obtain ⟨g,off,rfl⟩:=RE.addr HV.out (show 0 < l.length by omega);have ht:=HO.out _ (ao nC);obtain ⟨A1,c1,e1⟩:=RE.form ht.v;obtain ⟨A2,c2,e2⟩:=RE.form ht.u;have q1:wr.cell? ⟨g,off+k * 17+11,none⟩ = some (.slice A1 l[k].x.l.length c1):=by
    have:=ui HV.out nC (j:=11) (u:=l[k].v) (by omega) rfl;rw [this,e1]
   have q2:wr.cell? ⟨g,off+k * 17+14,none⟩ = some (.slice A2 l[k].r.l.length c2):=by
    have:=ui HV.out nC (j:=14) (u:=l[k].u) (by omega) rfl;rw [this,e2]
   obtain ⟨n1,AV⟩:∃n,n = l[k].x.l.length:=⟨_,rfl⟩;obtain ⟨n2,vC⟩:∃n,n = l[k].r.l.length:=⟨_,rfl⟩;rw [← AV] at q1;rw [← vC] at q2;have Cy:(l.take (k+1)).all sz = (decide (n1≤300) && decide (n2≤300)):=by
    rw [List.take_succ_eq_append_getElem nC,List.all_append,kY.out,Bool.true_and];show (sz l[k] && true) = _;rw [Bool.and_true];unfold sz;rw [AV,vC]
   have lR:(l.take (k+1)).all sz = false→R = false:=fun h=>by
    rw [HR.out];unfold wa;cases h2:l.all sz with
    | false=>simp
    | true =>
     have:(l.take (k+1)).all sz = true:=List.all_eq_true.2 fun x hx=>List.all_eq_true.1 h2 x (List.mem_of_mem_take hx);rw [h] at this;cases this
   have HTK:=bk Cy;have oH:=bk lR;have d2:decide ((k:Int) < (l.length:Int)) = true:=ae (by omega);have d2':decide (k < l.length) = true:=ae nC;have i0:(0:Int)≤(k:Int):=(by omega);have i1:(k:Int) < (l.length:Int):=(by omega);have oW:IntKind.i64.wrap ((k:Int)+1) = (k:Int)+1:=(by rw [IntKind.wrap_i64];omega);have oT:=bk nC;clear ht e1 e2 AV vC Cy lR kY hk;by_cases h1:n1≤300
   ·have d3:decide ((300:Int) < (n1:Int)) = false:=ac (by omega);have d3':decide (300 < n1) = false:=ac (by omega);have H1:=bk h1;clear h1;by_cases h2:n2≤300
    ·have d4:decide ((300:Int) < (n2:Int)) = false:=ac (by omega);have d4':decide (300 < n2) = false:=ac (by omega);have H2:=bk h2;clear h2 nC;go_wp2_with fail;go_roundw
     case rel=>exact ⟨trivial,k+1,by have:=oT.out;omega,by go_num,bk (by rw [HTK.out,ae H1.out,ae H2.out];rfl)⟩
     case measure=>have:=oT.out;simp [intOf];omega
    ·have d4:decide ((300:Int) < (n2:Int)) = true:=ae (by omega);have d4':decide (300 < n2) = true:=ae (by omega);have e:=oH.out (by rw [HTK.out,ac h2];simp);clear h2 nC;subst e;go_wp2_with fail;go_ret;(first | exact ⟨rfl,rfl⟩ | exact ⟨rfl,trivial⟩)
   ·have d3:decide ((300:Int) < (n1:Int)) = true:=ae (by omega);have d3':decide (300 < n1) = true:=ae (by omega);have e:=oH.out (by rw [HTK.out,ac h1];rfl);clear h1 nC;subst e;go_wp2_with fail;go_ret;(first | exact ⟨rfl,rfl⟩ | exact ⟨rfl,trivial⟩)
  ·obtain rfl:k = l.length:=(by omega);have e:R = true:=by
    rw [HR.out];unfold wa;have h:=kY.out;rw [List.take_length] at h;have:=HL.out;rw [h,ae (by omega)];rfl
   subst e;clear kY;go_wp2_with fail;go_ret;(first | exact ⟨rfl,rfl⟩ | exact ⟨rfl,trivial⟩)
theorem tw_ldX {g off n c:Nat} (h:RE twl 17 w (.slice (some ⟨g,off,none⟩) n c) l) (hk:k < l.length):(loadVar 47 ⟨g,off+k * 17,none⟩).run Tryz.prog w = .ok (.agg (clc l[k].x l[k].v)) w:=by
 have:=run_loadVar_mid (P:=Tryz.prog) w g (off+k * 17) 47 (clc l[k].x l[k].v).toList _ (fun j v hv=>by
  have hj:j < 12:=(List.getElem?_eq_some_iff.1 hv).1
  exact ui h hk (j:=j) (u:=v) (by omega) (by unfold twl;rw [List.getElem?_append_left hj];exact hv)) Tryz.underlying47 rfl (by rw [Array.length_toList];exact fq)
 simpa using this
section
variable {ops:Array Oper} {rest:List Oper} {o:Oper} {a:Act} {w:World} {Q:Exit→Act→World→Prop}
theorem aX {K:Act→World→Prop} {ty:TypeId} (z:Operand) (ho:o.op = .load ty z) {ad:Addr} (hx:a.eval z = .pointer (some ad)) {v:Value} (hl:(loadVar ty ad).run Tryz.prog w = .ok v w) (h:K (a.put o.dst v) w):o.wp Tryz.prog a w K Q:=by unfold Oper.wp execOp;simp only [ho,hx,Sem.run_bind,Instr.loadAt,Instr.sureAddr,Sem.run_pure,Result.andThen_ok,hl];exact h
theorem rq {ty:TypeId} (z:Operand) (ho:o.op = .load ty z) {ad:Addr} (hx:a.eval z = .pointer (some ad)) (hw:Region.wanted o (yielded ops a.tmps) = true) {v:Value} (hl:(loadVar ty ad).run Tryz.prog w = .ok v w) (h:wpList Tryz.prog ops Q rest (a.put o.dst v) w):wpList Tryz.prog ops Q (o :: rest) a w :=
 wpList_step fun K U=>by
  rw [ah hw]
  exact aX z ho hx hl (U _ _ h)
theorem em {ty:TypeId} (hg:o.guard = none) (z:Operand) (ho:o.op = .load ty z) {ad:Addr} (hx:a.eval z = .pointer (some ad)) {v:Value} (hl:(loadVar ty ad).run Tryz.prog w = .ok v w) (h:wpList Tryz.prog ops Q rest (a.put o.dst v) w):wpList Tryz.prog ops Q (o :: rest) a w :=
 wpList_plain hg fun _ hk=>aX z ho hx hl (hk _ _ h)
end
abbrev TB (w:World) (b:Nat) (t:Tw):Prop:=Blk w b 49 (twl t).toArray
theorem info47:(Tryz.prog.info? 49).map (·.size) = some 17:=by kernel_rfl
variable {t:Tw}
theorem TB.cellX (h:TB w b t) {j:Nat} (hj:j < 12) (hu:(clc t.x t.v)[j]? = some u):w.cell? ⟨b,j,none⟩ = some u:=by refine (h.cell j).trans ?_;rw [List.getElem?_toArray];unfold twl;rw [List.getElem?_append_left (show j < (clc t.x t.v).toList.length from hj)];simpa using hu
theorem TB.loadX (h:TB w b t):(loadVar 47 ⟨b,0,none⟩).run Tryz.prog w = .ok (.agg (clc t.x t.v)) w:=by
 have:=run_loadVar_mid (P:=Tryz.prog) w b 0 47 (clc t.x t.v).toList _ (fun j v hv=>by
  have hj:j < 12:=(List.getElem?_eq_some_iff.1 hv).1
  rw [Nat.zero_add]
  exact h.cellX hj (by simpa using hv)) Tryz.underlying47 rfl (by rw [Array.length_toList];exact fq)
 simpa using this
theorem TB.loadR (h:TB w b t):(loadVar 40 ⟨b,12,none⟩).run Tryz.prog w = .ok (.agg (rsc t.r t.u)) w:=by
 have:=run_loadVar_mid (P:=Tryz.prog) w b 12 40 (rsc t.r t.u).toList _ (fun j v hv=>by
  have hj:j < 3:=(List.getElem?_eq_some_iff.1 hv).1
  refine (h.cell (12+j)).trans ?_
  rw [List.getElem?_toArray]
  unfold twl
  rw [List.getElem?_append_right (show (clc t.x t.v).toList.length≤12+j by show 12≤12+j;omega)]
  rw [show 12+j - (clc t.x t.v).toList.length = j by show 12+j - 12 = j;omega]
  rw [List.getElem?_append_left hj];exact hv) Tryz.underlying40 rfl (by rw [Array.length_toList];exact dq)
 simpa using this
section
variable {ops:Array Oper} {rest:List Oper} {o:Oper} {a:Act} {w:World} {Q:Exit→Act→World→Prop} {b:Nat} {t:Tw}
theorem cA (hg:o.guard = none) (z:Operand) (ho:o.op = .box 49 z) (hx:a.eval z = .agg (twl t).toArray)
  (h:wpList Tryz.prog ops Q rest (a.put o.dst (.pointer (some ⟨w.heap.size,0,none⟩))) (w.alloc (.cells (twl t).toArray 49))):wpList Tryz.prog ops Q (o :: rest) a w :=
 Great.wpList_runTo hg _ rfl _ _ (by unfold execOp;simp only [ho,hx,Sem.run_bind,Instr.box,newVar,newRow,run_newObj_alloc,Sem.run_pure,Result.andThen_ok,Value.cells]) h
end
section
variable {ops:Array Oper} {rest:List Oper} {o:Oper} {act:Act} {w:World} {Q:Exit→Act→World→Prop}
end
section
variable {ops:Array Oper} {rest:List Oper} {o:Oper} {act:Act} {w:World} {Q:Exit→Act→World→Prop}
end
end Go.Proofs.YtfoleblcaloeoaaGreatDoor
namespace Go.Proofs.YtfoleblcaloeoaaGreatDoor
open Go
section
variable {P:Program} {ops:Array Oper}
end
end Go.Proofs.YtfoleblcaloeoaaGreatDoor
namespace Go.Proofs.YtfoleblcaloeoaaGreatDoor
open Go Go.RowKit Go.ChangeShapes Go.WideShapes Go.ChangeAt Go.Deep
theorem eT:Tryz.prog.cellsOf 5 = 1:=by kernel_rfl
theorem cells9:Tryz.prog.cellsOf 9 = 1:=by kernel_rfl
theorem cells42:Tryz.prog.cellsOf 42 = 1:=by kernel_rfl
theorem cells43:Tryz.prog.cellsOf 43 = 1:=by kernel_rfl
theorem cells45:Tryz.prog.cellsOf 45 = 2:=by kernel_rfl
theorem bB:Tryz.prog.cellsOf 37 = 1:=by kernel_rfl
theorem gU:Tryz.prog.cellsOf 38 = 1:=by kernel_rfl
theorem cells47:Tryz.prog.cellsOf 47 = 12:=by kernel_rfl
theorem cells31:Tryz.prog.cellsOf 31 = 1:=by kernel_rfl
theorem cells40:Tryz.prog.cellsOf 40 = 3:=by kernel_rfl
section
variable {H:Type} {enc:TypeId × Value→H} {w:World} {base:Nat} {spare:Nat→Bool} {held:Bool}
theorem fH {fuel:Nat} {v:Value} {x:DataW H × List MemPlace}
  (h:DataW.trod enc Tryz.prog w base spare held fuel 38 [v] = some x):∃l:List Nat,RB w v l∧(∀b∈l,b < 256)∧(l.length:Int)≤9223372036854775807:=by
 rcases open_ints Tryz.underlying38 Tryz.underlying5 eT h with ⟨sG,_⟩ | ⟨a,len,cap,zs,sG,_,hlc,wK,kQ,_,nW,hwf⟩
 ·injection sG with e;subst e;exact ⟨[],Rd.nil w 1 0 none,by simp,by simp⟩
 ·injection sG with e;subst e;have hzl:len≤zs.length:=by rw [kQ];split <;> omega
  have hl:((zs.take len).map Int.toNat).length = len:=by simp;omega
  have hb:∀i,(hi:i < zs.length)→0≤zs[i]∧zs[i]≤255:=fun i hi=>bounds_u8 (hwf _ (ao hi));refine ⟨(zs.take len).map Int.toNat,?_,fun b wF=>?_,by rw [hl];unfold maxLen at wK;omega⟩
  ·refine ⟨by rw [fz gk],some a,cap,by rw [hl],by rw [hl];exact hlc,fun Cw=>?_⟩;rw [hl] at Cw;obtain ⟨g,off,rfl⟩:=xy (by have:=nW 0 (by omega);exact this);refine ⟨g,off,rfl,fun j u hu=>?_⟩;have hj:j < len:=by
    have:=(List.getElem?_eq_some_iff.1 hu).1;rw [fz gk,hl] at this;omega
   have hg:=ut gk ((zs.take len).map Int.toNat) j 0 (by rw [hl];exact hj) (by omega);rw [Nat.mul_one,Nat.add_zero,hu] at hg;have hc:=nW j (by omega);rw [Addr.add_lit] at hc;rw [hc,hg];have hz:=hb j (by omega);simp [ucl,List.getD,List.getElem?_eq_getElem (show j < zs.length by omega),Int.toNat_of_nonneg hz.1]
  ·obtain ⟨z,hz,rfl⟩:=List.mem_map.1 wF;have:=bounds_u8 (hwf z (List.mem_of_mem_take hz));omega
theorem bN {fuel:Nat} {t:TypeId} (ht:Tryz.prog.underlying t = some (.int .u8)) {L:List Value} {i:Nat} {x:DataW H × List MemPlace} (h:DataW.trod enc Tryz.prog w base spare held fuel t ((L.drop i).take 1) = some x):∃z:Nat,L[i]? = some (.int .u8 z)∧z < 256:=by obtain ⟨z,e,_,hw⟩:=DataW.trod_int ht h;have:=bounds_u8 hw;exact ⟨z.toNat,by rw [xu e,Int.toNat_of_nonneg this.1],by omega⟩
theorem bM {fuel:Nat} {t:TypeId} (ht:Tryz.prog.underlying t = some (.int .u64)) {L:List Value} {i:Nat} {x:DataW H × List MemPlace} (h:DataW.trod enc Tryz.prog w base spare held fuel t ((L.drop i).take 1) = some x):∃z:Nat,L[i]? = some (.int .u64 z)∧z < 18446744073709551616:=by obtain ⟨z,e,_,hw⟩:=DataW.trod_int ht h;have:=bounds_u64 hw;exact ⟨z.toNat,by rw [xu e,Int.toNat_of_nonneg this.1],by omega⟩
theorem pu {fuel:Nat} {t:TypeId} (ht:Tryz.prog.underlying t = some (.int .i64)) {L:List Value} {i:Nat} {x:DataW H × List MemPlace} (h:DataW.trod enc Tryz.prog w base spare held fuel t ((L.drop i).take 1) = some x):∃z:Int,L[i]? = some (.int .i64 z)∧-9223372036854775808≤z∧z≤9223372036854775807:=by obtain ⟨z,e,_,hw⟩:=DataW.trod_int ht h;exact ⟨z,xu e,bounds_i64 hw⟩
theorem aK {fuel:Nat} {L:List Value} {i:Nat} {x:DataW H × List MemPlace} (hi:i < L.length) (h:DataW.trod enc Tryz.prog w base spare held fuel 38 ((L.drop i).take 1) = some x):∃(v:Value) (l:List Nat),L[i]? = some v∧RB w v l∧(∀b∈l,b < 256)∧(l.length:Int)≤9223372036854775807:=by
 have e:(L.drop i).take 1 = [L[i]]:=by rw [List.drop_eq_getElem_cons hi];rfl
 rw [e] at h;obtain ⟨l,h1,h2,h3⟩:=fH h;exact ⟨L[i],l,List.getElem?_eq_getElem hi,h1,h2,h3⟩
theorem jO {cs:Array Value} {d:DataW H} {p:List MemPlace} (hs:cs.size = 12) (h:DataW.Trod enc Tryz.prog w base spare held 47 (.agg cs) d p):∃(x:Cl) (v:Value),cs = clc x v∧x.Ok∧RB w v x.l∧(x.l.length:Int)≤9223372036854775807:=by
 obtain ⟨fuel,hf⟩:=h;have sG:(Value.agg cs).cells.toList = cs.toList:=rfl;rw [sG] at hf;obtain ⟨n,hp⟩:=na Tryz.underlying47 hf;obtain ⟨y0,vF⟩:=dv hp 0 rfl 42 0 1 rfl rfl cells42;obtain ⟨y1,ES⟩:=dv hp 1 rfl 3 1 1 rfl rfl kg;obtain ⟨y2,ET⟩:=dv hp 2 rfl 3 2 1 rfl rfl kg;obtain ⟨y3,hy3⟩:=dv hp 3 rfl 3 3 1 rfl rfl kg;obtain ⟨y4,hy4⟩:=dv hp 4 rfl 3 4 1 rfl rfl kg;obtain ⟨y5,hy5⟩:=dv hp 5 rfl 3 5 1 rfl rfl kg;obtain ⟨y6,hy6⟩:=dv hp 6 rfl 3 6 1 rfl rfl kg;obtain ⟨y7,hy7⟩:=dv hp 7 rfl 5 7 1 rfl rfl eT;obtain ⟨y8,hy8⟩:=dv hp 8 rfl 45 8 2 rfl rfl cells45;obtain ⟨y9,hy9⟩:=dv hp 9 rfl 37 10 1 rfl rfl bB;obtain ⟨y10,hy10⟩:=dv hp 10 rfl 38 11 1 rfl rfl gU;obtain ⟨k,e0,hk⟩:=bN Tryz.underlying42 vF;obtain ⟨p,e1,oP⟩:=pu Tryz.underlying3 ES;obtain ⟨nn,e2,hn⟩:=pu Tryz.underlying3 ET;obtain ⟨g,e3,hg⟩:=pu Tryz.underlying3 hy3;obtain ⟨c,e4,hc⟩:=pu Tryz.underlying3 hy4;obtain ⟨a,e5,ha⟩:=pu Tryz.underlying3 hy5;obtain ⟨s,e6,rD⟩:=pu Tryz.underlying3 hy6;obtain ⟨r,e7,hr⟩:=bN Tryz.underlying5 hy7;obtain ⟨n',hq⟩:=na Tryz.underlying45 hy8;obtain ⟨z0,IL⟩:=dv hq 0 rfl 43 0 1 rfl rfl cells43;obtain ⟨z1,IM⟩:=dv hq 1 rfl 5 1 1 rfl rfl eT;obtain ⟨ok,e8,oV⟩:=bN Tryz.underlying43 IL;obtain ⟨om,e9,hom⟩:=bN Tryz.underlying5 IM;obtain ⟨hh,e10,hhh⟩:=bM Tryz.underlying37 hy9;obtain ⟨v,l,e11,hv,hl,kQ⟩:=aK (by simp [hs]) hy10;refine ⟨⟨k,p,nn,g,c,a,s,r,ok,om,hh,l⟩,v,?_,⟨hk,oP,hn,hg,hc,ha,rD,hr,oV,hom,hhh,hl⟩,hv,kQ⟩;apply Array.ext_getElem?;intro i;have ee:∀i,cs[i]? = cs.toList[i]?:=fun i=>(Array.getElem?_toList (xs:=cs)).symm;rw [ee]
 match i with
 | 0=>exact e0
 | 1=>exact e1
 | 2=>exact e2
 | 3=>exact e3
 | 4=>exact e4
 | 5=>exact e5
 | 6=>exact e6
 | 7=>exact e7
 | 8=>exact vh e8
 | 9=>exact vh e9
 | 10=>exact e10
 | 11=>exact e11
 | i+12=>rw [List.getElem?_eq_none (by simp [hs])];rfl
theorem open_res {cs:Array Value} {d:DataW H} {p:List MemPlace} (hs:cs.size = 3) (h:DataW.Trod enc Tryz.prog w base spare held 40 (.agg cs) d p):∃(x:Rs) (v:Value),cs = rsc x v∧x.Ok∧RB w v x.l∧(x.l.length:Int)≤9223372036854775807:=by
 obtain ⟨fuel,hf⟩:=h;have sG:(Value.agg cs).cells.toList = cs.toList:=rfl;rw [sG] at hf;obtain ⟨n,hp⟩:=na Tryz.underlying40 hf;obtain ⟨y0,vF⟩:=dv hp 0 rfl 31 0 1 rfl rfl cells31;obtain ⟨y1,ES⟩:=dv hp 1 rfl 37 1 1 rfl rfl bB;obtain ⟨y2,ET⟩:=dv hp 2 rfl 38 2 1 rfl rfl gU;obtain ⟨e,e0,he⟩:=pu Tryz.underlying31 vF;obtain ⟨z,e1,hz⟩:=bM Tryz.underlying37 ES;obtain ⟨v,l,e2,hv,hl,kQ⟩:=aK (by simp [hs]) ET;refine ⟨⟨e,z,l⟩,v,?_,⟨he,hz,hl⟩,hv,kQ⟩;apply Array.ext_getElem?;intro i;have ee:∀i,cs[i]? = cs.toList[i]?:=fun i=>(Array.getElem?_toList (xs:=cs)).symm;rw [ee]
 match i with
 | 0=>exact e0
 | 1=>exact e1
 | 2=>exact e2
 | i+3=>rw [List.getElem?_eq_none (by simp [hs])];rfl
end
abbrev LL:List (String × DataW Unit):=[("unicode/utf8.acceptRanges",Rows.laid_unicode_utf8_acceptRanges),("byre/calls.fields",Rows.laid_byre_calls_fields),("unicode/utf8.first",Rows.laid_unicode_utf8_first)]
def flds:List (List Nat):=(List.range 22).map fld
theorem jI {H:Type}:(Rows.laid_byre_calls_fields:DataW H) = .agg (flds.map fun l=>.lit (.string (l.map UInt8.ofNat))):=by kernel_rfl
theorem jC {W:World} (h:laidMetH Tryz.prog LL W):FW W:=by
 rw [MakeChecks.laidMetH_plain _ _ _ (by kernel_rfl)] at h;obtain ⟨ps,⟨_,_,_,_,_,_,_,_,_,_,⟨g,t,cs,fuel,p,q,hg,ht,hv,hd,_,_⟩,_⟩,_,_⟩:=h;obtain rfl:=aq ((show Tryz.prog.globalNamed "byre/calls.fields" = some 0 by kernel_rfl).symm.trans hg);obtain rfl:=aq ((show (Tryz.prog.globals[0]?).map (·.type) = some 150 by kernel_rfl).symm.trans ht);obtain ⟨xs,m,_,ex,_,hl,Ib⟩:=DataW.trod_array Tryz.underlying150 hd;intro r hr;have hE:=Ib r hr;rw [cells9,Nat.mul_one,List.getElem?_eq_getElem (by omega)] at hE;obtain ⟨z,e1,e2,_⟩:=DataW.trod_string Tryz.underlying9 hE;have e3:(xs.map (·.1)) = flds.map fun l=>(.lit (.string (l.map UInt8.ofNat)):DataW Unit):=by have:=(Prod.mk.inj ex).1;rw [jI] at this;exact (DataW.agg.inj this).symm
 have e4:(xs.map (·.1))[r]? = (flds.map fun l=>(.lit (.string (l.map UInt8.ofNat)):DataW Unit))[r]?:=by rw [e3]
 have BA:flds.length = 22:=by simp [flds]
 rw [List.getElem?_map,List.getElem?_map,List.getElem?_eq_getElem (by omega:r < xs.length),List.getElem?_eq_getElem (by omega:r < flds.length),e2] at e4;have hz:z.data.toList = (fld r).map UInt8.ofNat:=by simp only [Option.map_some,Option.some.injEq,DataW.lit.injEq,Lit.string.injEq] at e4;rw [e4];simp [flds]
 have Dh:z = ft (fld r):=by unfold ft;cases z;simp only at hz;rw [← hz]
 rw [World.var?_cell hg hv r,← Dh];have:cs.toList[r]? = some (.string z):=by
  have h0:((cs.toList.drop r).take 1)[0]? = some (.string z):=by rw [e1];rfl
  simpa using h0
 simpa using this
