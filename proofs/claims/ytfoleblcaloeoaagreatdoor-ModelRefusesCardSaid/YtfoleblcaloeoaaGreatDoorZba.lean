/- Texts merged for the claim. -/
import Derived.Test.YtfoleblcaloeoaaGreatDoorZaz
set_option maxHeartbeats 40000000
set_option maxRecDepth 20000
namespace Go.Proofs.YtfoleblcaloeoaaGreatDoor
open Go Go.RowKit
theorem neqF1 (k:FuncId) (caps:Array Value) (w:World):(binOp .neq 84 (.func (.func k) #[] caps) .nilFunc).run Tryz.prog w = .ok (.bool true) w:=by kernel_rfl
theorem neqF0 (w:World):(binOp .neq 84 .nilFunc .nilFunc).run Tryz.prog w = .ok (.bool false) w:=by kernel_rfl
theorem RB.own_lt {w:World} {v:Value} {l:List Nat} (h:RB w v l) (hl:l≠[]):∀k∈own v,k < w.heap.size:=fun k hk=>by
 have hp:0 < l.length:=List.length_pos_iff.2 hl
 obtain ⟨A,c,rfl⟩:=RE.form h
 obtain ⟨g,off,rfl⟩:=RE.addr h hp
 rw [gh] at hk
 obtain rfl:=aa hk
 exact World.block_lt_of_cell? w _ (RE.cell jb h (k:=0) (j:=0) hp (by omega) rfl)
theorem gN {w:World} {m:Nat} {M:Mo} {bp bo be:Nat} {fp fo fe:Int→Option Value} {gb:Int→Nat} {GF:Int→Nat→Prop} {ov:Int→Value} (hI:MIn w m M bp bo be fp fo fe gb GF ov) (x:Cl) (v:Nat) :
  ∀b∈(bj M x v).1.l,b < 256:=by
 have nl:∀(R:Rs × Option Mo),R.1.l = []→∀b∈R.1.l,b < 256:=fun R h b hb=>by rw [h] at hb;cases hb
 have nl2:∀(R:Rs),R.l = []→∀b∈R.l,b < 256:=fun R h b hb=>by rw [h] at hb;cases hb
 unfold bj
 split
 ·refine nl _ ?_
  unfold iq
  split <;> rfl
 split
 ·refine nl _ ?_
  unfold ja
  split <;> rfl
 split
 ·unfold fh
  cases hb:M.ob x.h with
  | none=>first | exact nl _ rfl | exact nl2 _ rfl
  | some B =>
   simp only
   split
   ·first | exact nl _ rfl | exact nl2 _ rfl
   split
   ·first | exact nl _ rfl | exact nl2 _ rfl
   split
   ·intro b h
    exact (hI.ob _ _ hb).2.1 b (List.mem_of_mem_drop (List.mem_of_mem_take h))
   ·first | exact nl _ rfl | exact nl2 _ rfl
 split
 ·first | exact nl _ rfl | exact nl2 _ rfl
 cases hp:M.pr x.p with
 | none=>first | exact nl _ rfl | exact nl2 _ rfl
 | some p =>
  simp only
  unfold cd
  split
  ·first | exact nl _ rfl | exact nl2 _ rfl
  split
  ·first | exact nl _ rfl | exact nl2 _ rfl
  split
  ·first | exact nl _ rfl | exact nl2 _ rfl
  split
  ·first | exact nl _ rfl | exact nl2 _ rfl
  split
  ·obtain ⟨d,FA,qp,qo,gp',go',gp,hP,-,-⟩:=hI.pr x.p p hp
   unfold cx
   simp only
   split
   ·first | exact nl _ rfl | exact nl2 _ rfl
   split
   ·split
    ·first | exact nl _ rfl | exact nl2 _ rfl
    ·intro b h
     have h1:=List.mem_of_mem_drop (List.mem_of_mem_take h)
     cases hg:p.pg (x.a / 256) with
     | none =>
      rw [hg] at h1
      have h2:b∈zeroPg:=h1
      unfold zeroPg at h2
      rw [List.mem_replicate] at h2
      omega
     | some B =>
      rw [hg] at h1
      exact (hP.pg _ _ hg).b8 b h1
   ·split <;> (first | exact nl _ rfl | exact nl2 _ rfl)
  split
  ·first | exact nl _ rfl | exact nl2 _ rfl
  split
  ·first | exact nl _ rfl | exact nl2 _ rfl
  split <;> (first | exact nl _ rfl | exact nl2 _ rfl)
theorem vx {w:World} {m:Nat} {M:Mo} {O:Nat→Prop} (h:MMem w m M O) (hf:FW w) {x:Cl} {v:Value} {r:Rs} {u:Value} (hx:x.Ok) (hv:RB w v x.l) (hr:r.Ok) (hu:RB w u r.l) :
  Calls Tryz.prog 11 #[.pointer (some ⟨m,0,none⟩),.agg (clc x v),.agg (rsc r u)] w fun e w'=>e = .returned (.bool (fv M x r))∧CP O w w'∧∃O',MMem w' m (ic M x r) O'∧∀k,O' k→O k∨w.heap.size≤k:=by
 obtain ⟨X,hX1,hX2⟩:∃X:List Nat,(x.l≠[]→∀k∈own v,k∈X)∧∀k∈X,k < w.heap.size:=by
  by_cases h:x.l = []
  ·exact ⟨[],fun h2=>absurd h h2,fun k hk=>by cases hk⟩
  ·exact ⟨own v,fun _ k hk=>hk,RB.own_lt hv h⟩
 obtain ⟨A0,c0,rfl⟩:=RE.form hv
 obtain ⟨A1,c1,rfl⟩:=RE.form hu
 have HM:=ah h
 obtain ⟨bp,bo,be,fp,fo,fe,gb,GF,ov,hI,hO,hl⟩:=h
 obtain ⟨W2,jB⟩:∃W2,W2 = (w.alloc (.cells (clc x (.slice A0 x.l.length c0)) 47)).alloc (.cells (rsc r (.slice A1 r.l.length c1)) 40):=⟨_,rfl⟩
 have jA:Chg [] w W2:=by rw [jB];exact ((Chg.refl [] w).alloc _).alloc _
 have kQ:KB W2 w.heap.size x (.slice A0 x.l.length c0):=by rw [jB];exact (Blk.new w _ _).alloc _
 have qQ:XB W2 (w.heap.size+1) r (.slice A1 r.l.length c1):=by
  have:=Blk.new (w.alloc (.cells (clc x (.slice A0 x.l.length c0)) 47)) 40 (rsc r (.slice A1 r.l.length c1))
  rw [af] at this
  rw [jB]
  exact this
 obtain ⟨b4,e4⟩:∃b,b = w.heap.size:=⟨_,rfl⟩
 obtain ⟨b5,e5⟩:∃b,b = w.heap.size+1:=⟨_,rfl⟩
 rw [← e5] at qQ
 rw [← e4] at kQ
 have HE:=ah (And.intro e4 e5)
 have HI:=ah (fun W (h:Chg [] W2 W)=>hI.stay (jA.stay h))
 have jW:=ah (fun W (h:Chg [] W2 W)=>KB.stay kQ h)
 have mX:=ah (fun W (h:Chg [] W2 W)=>XB.stay qQ h)
 have jU:=ah jA
 have jP:=ah jB
 have tV:=ah (fun W (h:Chg [] W2 W)=>hf.stay (jA.stay h))
 have HV:=ah (fun W (h:Chg [] W2 W)=>RE.stay hv (jA.stay h))
 have HU:=ah (fun W (h:Chg [] W2 W)=>RE.stay hu (jA.stay h))
 have HX:=ah hx
 have vF:=ah hr
 have BF:=ah (And.intro hX1 hX2)
 have nB:=ah (fun e W=>kh e W)
 have vY:=ah (gN hI x r.v)
 have lU:=ah (show ∀W,Chg [] W2 W→CP O w W∧∃O',MMem W m M O'∧∀k,O' k→O k∨w.heap.size≤k from fun W hW=>⟨CP.of0 (jA.stay hW),O,HM.out.stay (jA.stay hW),fun k hk=>.inl hk⟩)
 have CA:=ah (qi (HI.out W2 (Chg.refl _ _)).blk)
 clear hI hO hl hv hu hx hr hX1 hX2 hf kQ qQ jA jB e4 e5
 obtain ⟨SB,CU⟩:∃b,b = fv M x r:=⟨_,rfl⟩
 obtain ⟨SM,CV⟩:∃N,N = ic M x r:=⟨_,rfl⟩
 rw [← CU,← CV]
 have qP:=ah CU
 have sG:=ah CV
 clear CU CV
 go_enter Tryz.func11,Tryz.ntmps11
 go_upto_region 1 with (first|refine ax rfl _ rfl rfl ?_;try simp only [af]|refine em rfl _ rfl rfl ?_;try simp only [af];try rw [← jP.out])
 rw [← HE.out.2,← HE.out.1]
 go_wp2_with fail
 refine CA.out.mono ?_
 rintro e W2' ⟨rfl,rfl⟩
 cases hw:ci M.c x with
 | true =>
  have e1:SB = da r (aq 2):=by rw [qP.out];unfold fv;rw [if_pos hw]
  have e2:SM = M:=by rw [sG.out];unfold ic;rw [if_pos (.inl hw)]
  subst e1 e2
  have uD:=ah (fun W (h:Chg [] W2 W)=>vy (tV.out W h) SM.c HX.out (HV.out W h))
  rw [hw] at uD
  clear hw
  go_upto_region 3 with (fail)
  refine rgt [0,0,0,5,5,3,0] [none,none,none,none,none,none,none] (fun W=>Chg [] W2 W) ?_
  have hS:Chg [] W2 W2.drew:=(Chg.refl [] W2).drew
  have lm:=(HI.out _ hS).blk.lt
  generalize W2.drew = W0 at hS lm ⊢
  go_wp2_with (first|refine al 26 _ rfl rfl (fun w' J=>dp (HI.out w' J).blk) hS ?_|refine al 47 _ rfl rfl (fun w' J=>KB.load (jW.out w' J)) hS ?_|refine ao fun K I=>?_;go_simp;refine (uD.out W0 hS).mono ?_;rintro e W3 ⟨rfl,jD⟩;refine I _ _ ?_;clear I K;have jE:=ah (hS.stay jD);clear jD hS lm;obtain ⟨c0',-,-,-,-,-,-,-,-,-,-,-,l4,-⟩:=KB.cells (jW.out W3 jE.out);obtain ⟨p0,-,-,l5,-⟩:=XB.cells (mX.out W3 jE.out)|refine av fun K I=>?_|refine ai fun K I=>?_;go_simp;refine I _ _ ?_;clear I K|refine ao fun K I=>?_;go_simp|refine aj ?_)
  refine rgt [5,6,3,0] [none,none,none,none] (fun W=>Chg [] W2 W) ?_
  have hS:=jE.out.drew
  generalize W3.drew = W4 at hS ⊢
  go_wp2_with (first|refine al 40 _ rfl rfl (fun w' J=>XB.load (mX.out w' J)) hS ?_|refine av fun K I=>?_|refine ai fun K I=>?_;go_simp;refine I _ _ ?_;clear I K|refine ao fun K I=>?_;go_simp|refine aj ?_)
  (refine aw hS fun K I=>?_)
  go_simp
  refine (nB.out 2 _).mono ?_
  rintro e W5 ⟨rfl,U⟩
  have nO:=hS.stay U
  refine I _ _ nO ?_
  clear I K U
  go_wp2_with (first|refine ao fun K I=>?_;go_simp;refine (sd (y:=aq 2) (HU.out W5 nO) (RE.nil ucl 1 _ none 0) vF.out.l (fun _ h=>by cases h)).mono ?_;rintro e W6 ⟨rfl,iZ⟩;refine I _ _ ?_;clear I K|refine av fun K I=>?_|refine ai fun K I=>?_;go_simp;refine I _ _ ?_;clear I K|refine ao fun K I=>?_;go_simp|refine aj ?_)
  go_ret
  exact ⟨rfl,lU.out _ (nO.stay iZ)⟩
 | false =>
  have mL:=ah hw
  have uD:=ah (fun W (h:Chg [] W2 W)=>vy (tV.out W h) M.c HX.out (HV.out W h))
  rw [hw] at uD
  clear hw
  go_upto_region 3 with (fail)
  refine rgt [0,0,0,5,5,3,0] [none,none,none,none,none,none,none] (fun W=>Chg [] W2 W) ?_
  have hS:Chg [] W2 W2.drew:=(Chg.refl [] W2).drew
  have lm:=(HI.out _ hS).blk.lt
  generalize W2.drew = W0 at hS lm ⊢
  go_wp2_with (first|refine al 26 _ rfl rfl (fun w' J=>dp (HI.out w' J).blk) hS ?_|refine al 47 _ rfl rfl (fun w' J=>KB.load (jW.out w' J)) hS ?_|refine ao fun K I=>?_;go_simp;refine (uD.out W0 hS).mono ?_;rintro e W3 ⟨rfl,jD⟩;refine I _ _ ?_;clear I K;have jE:=ah (hS.stay jD);clear jD hS lm;obtain ⟨c0',-,-,-,-,-,-,-,-,-,-,-,l4,-⟩:=KB.cells (jW.out W3 jE.out);obtain ⟨p0,-,-,l5,-⟩:=XB.cells (mX.out W3 jE.out)|refine av fun K I=>?_|refine ai fun K I=>?_;go_simp;refine I _ _ ?_;clear I K|refine ao fun K I=>?_;go_simp|refine aj ?_)
  refine (free_any x.k r.e W3).mono ?_
  rintro e W3' ⟨rfl,rfl⟩
  cases tP:eh x.k r.e with
  | true =>
   have e1:SB = da r (aq r.e):=by rw [qP.out];unfold fv;rw [if_neg (by rw [mL.out];decide),if_pos tP]
   have e2:SM = M:=by rw [sG.out];unfold ic;rw [if_pos (.inr (.inl tP))]
   subst e1 e2
   clear tP c0' l4 p0 l5
   go_upto_region 6 with (fail)
   refine rgt [5,0,5,6,3,0] [none,none,none,none,none,none] (fun W=>Chg [] W2 W) ?_
   have hS:=jE.out.drew
   generalize W3.drew = W4 at hS ⊢
   go_wp2_with (first|refine al 40 _ rfl rfl (fun w' J=>XB.load (mX.out w' J)) hS ?_|refine al 31 _ rfl rfl (fun w' J=>cr Tryz.underlying31 (XB.cells (mX.out w' J)).1) hS ?_|refine av fun K I=>?_|refine ai fun K I=>?_;go_simp;refine I _ _ ?_;clear I K|refine ao fun K I=>?_;go_simp|refine aj ?_)
   (refine aw hS fun K I=>?_)
   go_simp
   refine (nB.out r.e _).mono ?_
   rintro e W5 ⟨rfl,U⟩
   have nO:=hS.stay U
   refine I _ _ nO ?_
   clear I K U
   go_wp2_with (first|refine ao fun K I=>?_;go_simp;refine (sd (y:=aq r.e) (HU.out W5 nO) (RE.nil ucl 1 _ none 0) vF.out.l (fun _ h=>by cases h)).mono ?_;rintro e W6 ⟨rfl,iZ⟩;refine I _ _ ?_;clear I K|refine av fun K I=>?_|refine ai fun K I=>?_;go_simp;refine I _ _ ?_;clear I K|refine ao fun K I=>?_;go_simp|refine aj ?_)
   go_ret
   exact ⟨rfl,lU.out _ (nO.stay iZ)⟩
  | false =>
   have HFR:=ah tP
   clear tP c0' l4 p0 l5
   go_wp2_with (first|refine ck rfl _ rfl rfl (jW.out W3 jE.out) ?_|refine dc rfl _ rfl rfl (mX.out W3 jE.out) ?_)
   refine (dJ (X:=X) (HM.out.stay (jU.out.stay jE.out)) HX.out (HV.out W3 jE.out) BF.out.1 (fun k hk=>Nat.lt_of_lt_of_le (BF.out.2 k hk) (jU.out.stay jE.out).size) mL.out vF.out.v).mono ?_
   rintro e W4 ⟨⟨A,n,c,f,rfl,pO,-,heff⟩,jT⟩
   have jR:=ah (jE.out.stay jT)
   have xL:=ah jT
   have HRB:=ah pO
   have qY:=ah heff
   clear pO heff jT
   obtain ⟨RR,kB⟩:∃R,R = bj M x r.v:=⟨_,rfl⟩
   rw [← kB] at HRB qY vY
   rw [← kB]
   have jC:=ah kB
   clear kB
   go_wp2_with (first|refine bn rfl rfl ?_;try go_simp|refine au (b:=W4.heap.size) (y:=RR.1) (u:=.slice A n c) rfl _ _ rfl rfl rfl rfl (Blk.new W4 _ _) ?_;intro W6 h6 iZ;have H6:=ah h6;have xM:=ah (vi iZ);clear h6 iZ|refine dc rfl _ rfl rfl (mX.out W6 (jR.out.stay xM.out)) ?_|refine dc (b:=W4.heap.size) rfl _ rfl rfl H6.out ?_)
   refine (sd (HU.out W6 (jR.out.stay xM.out)) (HRB.out.stay xM.out) vF.out.l vY.out).mono ?_
   rintro e W7 ⟨rfl,jI⟩
   have HC47:=ah (xM.out.stay jI)
   have qX:=ah (jR.out.stay (xM.out.stay jI))
   clear jI
   have ebN:=show SB = da r RR.1 by rw [qP.out];unfold fv;rw [if_neg (by rw [mL.out];decide),if_neg (by rw [HFR.out];decide),jC.out]
   cases oN:da r RR.1 with
   | false =>
    have e1:SB = false:=by rw [ebN,oN]
    have e2:SM = M:=by rw [sG.out];unfold ic;rw [← jC.out,if_pos (.inr (.inr (.inl oN)))]
    subst e1 e2
    clear oN ebN
    go_wp2_with fail
    go_ret
    exact ⟨rfl,lU.out _ qX.out⟩
   | true =>
    have e1:SB = true:=by rw [ebN,oN]
    have e2:SM = if r.e = 0 then RR.2.getD M else M:=by
     rw [sG.out]
     unfold ic
     rw [← jC.out]
     by_cases h:r.e = 0
     ·rw [if_pos h,if_neg]
      rintro (h1 | h1 | h1 | h1)
      ·rw [mL.out] at h1;cases h1
      ·rw [HFR.out] at h1;cases h1
      ·rw [oN] at h1;cases h1
      ·exact h1 h
     ·rw [if_neg h,if_pos (.inr (.inr (.inr h)))]
    subst e1
    have vB:=ah e2
    clear oN ebN e2
    obtain ⟨R1,N⟩:=RR
    obtain ⟨p0,-,-,l5,-⟩:=XB.cells (mX.out W7 qX.out)
    cases N with
    | none =>
     obtain rfl:f = .nilFunc:=qY.out
     have hq:=fun w=>neqF0 w
     have e2:SM = M:=by rw [vB.out];split <;> rfl
     subst e2
     go_wp2_with fail
     go_ret
     exact ⟨rfl,lU.out _ qX.out⟩
    | some M' =>
     obtain ⟨k,caps,rfl,Gd,Be⟩:=qY.out
     replace Gd:=Gd caps
     have EY:=ah Be
     clear Be
     have hq:=fun w=>neqF1 k caps w
     by_cases hz:r.e = 0
     ·have e2:SM = M':=by rw [vB.out,if_pos hz];rfl
      subst e2
      rw [hz] at p0
      clear hz
      go_wp2_with fail
      refine (EY.out [] W7 (Off.nil _ _ _) HC47.out).mono ?_
      rintro e W8 ⟨rfl,k1,O',k2,k3⟩
      go_wp2_with fail
      go_ret
      have lY:=(jU.out.stay jE.out).size
      obtain ⟨L,g1,g2⟩:=k1
      exact ⟨rfl,⟨L,(((jU.out.stay qX.out).up L).and_ g1),fun k hk=>(by
       rcases g2 k hk with (h | h) | h
       ·exact .inl h
       ·exact .inr (by omega)
       ·exact .inr (ag (jU.out.stay qX.out).size h))⟩,O',k2,fun k hk=>(k3 k hk).imp id (ag lY)⟩
     ·have e2:SM = M:=by rw [vB.out,if_neg hz]
      subst e2
      have d0:(r.e == 0) = false:=beq_false_of_ne hz
      have d1:decide (r.e = 0) = false:=ac hz
      clear hz
      go_wp2_with fail
      go_ret
      exact ⟨rfl,lU.out _ qX.out⟩
theorem kq {M:Mo} {x:Cl} (r:Rs) (hw:ci M.c x = false):fv M x r = if eh x.k r.e = true then da r (aq r.e) else da r (bj M x r.v).1:=by
 unfold fv
 rw [if_neg (by rw [hw];decide)]
theorem tm {M:Mo} {x:Cl} {r:Rs} (hw:ci M.c x = false) (hf:eh x.k r.e = false) (hs:da r (bj M x r.v).1 = true) (he:r.e = 0):ic M x r = ((bj M x r.v).2).getD M:=by
 unfold ic
 rw [if_neg]
 rintro (h | h | h | h)
 ·rw [hw] at h;cases h
 ·rw [hf] at h;cases h
 ·rw [hs] at h;cases h
 ·exact h he
theorem xe {M:Mo} {x:Cl} {r:Rs} (h:fv M x r = false):ic M x r = M:=by
 unfold ic
 by_cases hw:ci M.c x = true
 ·rw [if_pos (.inl hw)]
 by_cases hf:eh x.k r.e = true
 ·rw [if_pos (.inr (.inl hf))]
 rw [kq r (by simpa using hw),if_neg hf] at h
 rw [if_pos (.inr (.inr (.inl h)))]
structure MS (W0:World) (L:List Nat) (w:World) (m:Nat) (M:Mo):Prop where
 mem:∃O,MMem w m M O∧(∀k,O k→W0.heap.size≤k)∧∀k∈L,¬ O k
 lt:∀k∈L,k < w.heap.size
 chg:Chg [] W0 w
theorem MS.stay {W0 w w':World} {L:List Nat} {m:Nat} {M:Mo} (h:MS W0 L w m M) (hc:Chg [] w w'):MS W0 L w' m M:=by
 obtain ⟨⟨O,h1,h2,h3⟩,h4,h5⟩:=h
 exact ⟨⟨O,h1.stay hc,h2,h3⟩,fun k hk=>Nat.lt_of_lt_of_le (h4 k hk) hc.size,h5.stay hc⟩
theorem New_ms {W0 w:World} {L:List Nat} {c:Cf} (hc:mayB c = true) (h0:Chg [] W0 w) (hL:∀k∈L,k < w.heap.size) :
  Calls Tryz.prog 8 #[.agg (cg c)] w fun e w'=>(∃m,e = .returned (.tuple #[.pointer (some ⟨m,0,none⟩),.int .i64 0])∧MS W0 L w' m (nk c))∧Chg [] w w':=by
 refine (fG hc).mono ?_
 rintro e w' ⟨⟨m,rfl,O,h1,h2⟩,h3⟩
 exact ⟨⟨m,rfl,⟨O,h1,fun k hk=>ag h0.size (h2 k hk),fun k hk ho=>by have:=hL k hk;have:=h2 k ho;omega⟩,fun k hk=>Nat.lt_of_lt_of_le (hL k hk) h3.size,h0.stay h3⟩,h3⟩
def Kept (L:List Nat) (W0 w w':World):Prop:=∃F,Chg F w w'∧∀k∈F,k∉L∧W0.heap.size≤k
theorem nz {W0 w:World} {L:List Nat} {m:Nat} {M:Mo} (h:MS W0 L w m M) (hf:FW W0) {x:Cl} {v:Value} {r:Rs} {u:Value} (hx:x.Ok) (hv:RB w v x.l) (hr:r.Ok) (hu:RB w u r.l) :
  Calls Tryz.prog 11 #[.pointer (some ⟨m,0,none⟩),.agg (clc x v),.agg (rsc r u)] w fun e w'=>e = .returned (.bool (fv M x r))∧MS W0 L w' m (ic M x r)∧Kept L W0 w w':=by
 obtain ⟨⟨O,h1,h2,h3⟩,h4,h5⟩:=h
 refine (vx h1 (hf.stay h5) hx hv hr hu).mono ?_
 rintro e w' ⟨rfl,⟨F,g1,g2⟩,O',k2,k3⟩
 have lY:=h5.size
 refine ⟨rfl,⟨⟨O',k2,fun k hk=>(k3 k hk).elim (h2 k) (fun h=>by omega),fun k hk ho=>(k3 k ho).elim (h3 k hk) (fun h=>by have:=h4 k hk;omega)⟩,fun k hk=>Nat.lt_of_lt_of_le (h4 k hk) g1.size,h5.trans g1 (fun k hk=>.inr ((g2 k hk).elim (h2 k) (fun h=>by omega)))⟩,F,g1,fun k hk=>⟨fun hm=>(g2 k hk).elim (h3 k hm) (fun h=>by have:=h4 k hm;omega),(g2 k hk).elim (h2 k) (fun h=>by omega)⟩⟩
structure BC (l:List (Nat × Value)) (x:Cl) (v:Value):Prop where
 h:Tryz.prog.built 47 l = some (clc x v)
section
variable {ops:Array Oper} {rest:List Oper} {o:Oper} {a:Act} {w:World} {Q:Exit→Act→World→Prop} {x:Cl} {v:Value}
theorem bq (parts:Array (Nat × Operand)) (ho:o.op = .build 47 parts)
  {l:List (Nat × Value)} (hw:Region.wanted o (yielded ops a.tmps) = true) (hb:BC l x v) (hl:(parts.map fun (i,x)=>(i,a.eval x)).toList = l) (h:wpList Tryz.prog ops Q rest (a.put o.dst (.agg (clc x v))) w):wpList Tryz.prog ops Q (o :: rest) a w :=
 wpList_step fun K I=>by
  rw [if_pos hw]
  exact wp_build 47 parts ho (by rw [hl,hb.h];rfl) (I _ _ (by rw [hl,hb.h];exact h))
end
theorem nw_of {c:Cf} {x:Cl} (hm:mayB c = true) (hk:lc x = true) (h1:t1K x = false) (h2:t2K x = false) (h3:t3K x = false) (h4:hasB x 110 = false) (h5:hasB x 111 = false) (h6:t6K x = false) (h7:t7K x = false) (h8:t8K x = false):ci c x = false:=by
 have e4:t4K c x = false:=by unfold t4K;rw [h4];rfl
 have e5:t5K c x = false:=by unfold t5K;rw [h5];rfl
 unfold ci
 simp [hm,hk,h1,h2,h3,e4,e5,h6,h7,h8]
def oneC0:Cf:=fun i=>if i = 0 then 1 else if i = 1 then 1 else if i = 90 then 4 else 0
def rx:Cf:=fun i=>if i = 18 then 4 else oneC0 i
theorem gT:BT [(0,.int .i64 1),(1,.int .i64 1),(5,.int .i64 4)] oneC0:=⟨by kernel_rfl⟩
theorem one_may:jh rx where
 n1:=by decide
 n8:=by decide
 p1:=by decide
 p16:=by decide
 s0:=by decide
 s1:=by decide
 home:=by decide
 home0:=by decide
 fr:=by decide
 fr0:=by decide
 ds0:=fun i k hi hk=>(by decide:∀i:Nat,i < 8→∀k:Nat,k < 8→rx 0≤(i:Int)∨rx 0≤(k:Int)∨i = k→rx (26+i * 8+k) = 0) i hi k hk
 ds1:=fun i k hi hk=>fun h1 h2 h3=>(by decide:∀i:Nat,i < 8→∀k:Nat,k < 8→((i:Int) < rx 0∧(k:Int) < rx 0∧¬ i = k)→(1≤rx (26+i * 8+k)∧rx (26+i * 8+k)≤255∧rx (26+i * 8+k) = rx (26+k * 8+i))) i hi k hk ⟨h1,h2,h3⟩
 mi:=by decide
 lo:=by decide
 hi:=by decide
theorem ia:mayB rx = true:=mayB_iff.2 one_may
theorem one_any (w:World):Calls Tryz.prog 25 #[] w fun e w'=>e = .returned (.agg (cg rx))∧Chg [] w w':=by
 have HR:Hid (CB ((w.alloc (.cells (cg (fun _=>0)) 26)).alloc (.cells (cg (fun _=>0)) 26)) w.heap.size (fun _=>0)):=ah ((Blk.new w 26 _).alloc _)
 have HB:Hid (CB ((w.alloc (.cells (cg (fun _=>0)) 26)).alloc (.cells (cg (fun _=>0)) 26)) (w.heap.size+1) (fun _=>0)):=ah (by
  have:=Blk.new (w.alloc (.cells (cg (fun _=>0)) 26)) 26 (cg (fun _=>0))
  rwa [af] at this)
 have HC:Hid (Chg [] w ((w.alloc (.cells (cg (fun _=>0)) 26)).alloc (.cells (cg (fun _=>0)) 26))):=ah (((Chg.refl [] w).alloc _).alloc _)
 obtain ⟨D0,hD0⟩:∃D0,D0 = oneC0:=⟨_,rfl⟩
 have HT:=ah gT
 rw [← hD0] at HT
 have HD0:=ah hD0
 obtain ⟨D,hD⟩:∃D,D = rx:=⟨_,rfl⟩
 rw [← hD]
 have HD:=ah hD
 clear hD0 hD
 go_enter Tryz.func25,Tryz.ntmps25
 go_wp2_with (first|refine qv rfl rfl ?_;try simp only [af]|refine xj rfl _ rfl HT.out ?_ ?_;(focus (simp [Act.eval];done))|refine pq (b:=w.heap.size+1) (c:=fun _=>0) rfl _ _ rfl rfl rfl ?_ ?_;(focus exact HB.out);intro W5 h5 U;have q18:=CB.get h5 (i:=18) (by omega);have f18:=Blk.frozen h5 18;have H5:=ah h5;have jL:=ah U;have BD:=ah (HR.out.chg U (by simp));have hl5:w.heap.size+1 < W5.heap.size:=h5.lt;clear h5 U|refine cw (b:=w.heap.size+1) (c:=D) rfl _ rfl rfl ?_ ?_;(focus (rw [HD.out];have:=CB.set H5.out 18 4;rw [HD0.out] at this;exact this))|refine pq (b:=w.heap.size) (c:=fun _=>0) rfl _ _ rfl rfl rfl ?_ ?_;(focus exact (Blk.far BD.out (by simp) _));intro W6 h6 iZ)
 refine bodyPost_ret (v:=.agg (cg D)) (results_cell_row (p:=0) (ty:=26) rfl _ _ w.heap.size 26 _ (0,0) _ rfl h6 Tryz.underlying26 rfl mh) rfl ⟨rfl,?_⟩
 have c9:=jL.out.setCell (p:=⟨w.heap.size+1,18,none⟩) (.inl (by simp)) (.int .i64 4)
 exact (HC.out.trans c9 (fun x hx=>.inr (by obtain rfl:=aa hx;omega))).trans iZ (fun x hx=>.inr (by obtain rfl:=aa hx;omega))
end Go.Proofs.YtfoleblcaloeoaaGreatDoor
