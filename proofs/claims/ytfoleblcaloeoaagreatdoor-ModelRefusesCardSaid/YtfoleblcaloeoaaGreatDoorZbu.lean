/- Texts merged for the claim. -/
import Derived.Test.YtfoleblcaloeoaaGreatDoorZbt
set_option maxHeartbeats 40000000
set_option maxRecDepth 20000
namespace Go.Proofs.YtfoleblcaloeoaaGreatDoor
open Go Go.RowKit
theorem ofK_l (k:Nat) (L l:List Nat):(ofK k L l).l = l:=by
 unfold ofK
 split <;> rfl
theorem RB_capW {w:World} {A:Option Addr} {n c:Nat} {l:List Nat} (h:RW w (.slice A n c) l):n = l.length∧l.length≤c:=by
 obtain ⟨_,A2,c2,e2,Aq,_⟩:=h
 injection e2 with _ e4 e3
 subst e3
 exact ⟨e4,Aq⟩
theorem iP {w:World} {x:Cl} {v:Value} (hx:x.Ok) (hv:RB w v x.l) :
  Calls Tryz.prog 72 #[.agg (clc x v)] w fun e w'=>e = .returned (.bool (mayR x))∧Chg [] w w':=by
 obtain ⟨A0,c0,rfl⟩:=RE.form hv
 obtain ⟨W2,jB⟩:∃W2,W2 = w.alloc (.cells (clc x (.slice A0 x.l.length c0)) 47):=⟨_,rfl⟩
 have kF:KB W2 w.heap.size x (.slice A0 x.l.length c0):=by rw [jB];exact Blk.new w 47 _
 have jH:Chg [] w W2:=by rw [jB];exact (Chg.refl [] w).alloc _
 have HB:=ah kF
 have HC:=ah jH
 have jP:=ah jB
 have HV:=ah hv
 have HX:=ah hx
 clear hv hx kF jH jB
 obtain ⟨R,hR⟩:∃R,R = mayR x:=⟨_,rfl⟩
 rw [← hR]
 unfold mayR at hR
 have HR:=ah hR
 clear hR
 go_enter Tryz.func72,Tryz.ntmps72
 go_wp2_with (first|refine ax rfl _ rfl rfl ?_;try rw [← jP.out]|refine ck rfl _ rfl rfl HB.out ?_)
 refine (List_any HX.out A0 x.l.length c0).mono ?_
 rintro e W3 ⟨⟨A3,n3,c3,rfl,hs3,-⟩,jD⟩
 have jY:=ah (KB.stay HB.out jD)
 have jE:=ah (HC.out.stay jD)
 have n3l:n3 = (tj x).length:=(RB_capW hs3.re).1
 subst n3l
 have oF:=ah hs3
 clear hs3 jD HB HC jP
 obtain ⟨b1,e1⟩:∃b,b = w.heap.size:=⟨_,rfl⟩
 rw [← e1] at jY ⊢
 clear e1
 obtain ⟨c0',-,-,-,-,-,-,-,-,-,-,c11',cl',-⟩:=KB.cells jY.out
 go_upto_region 2 with (fail)
 cases hk:isK x.k with
 | false =>
  rw [hk] at HR
  clear hk
  go_wp2_with fail
  go_ret
  exact ⟨by rw [HR.out];rfl,jE.out⟩
 | true =>
  rw [hk] at HR
  clear hk
  by_cases h8:8 < x.l.length
  ·have d1:decide ((8:Int) < (x.l.length:Int)) = true:=ae (by omega)
   have d2:decide (8 < x.l.length) = true:=ae h8
   have H8:=ah (show decide (x.l.length≤8) = false from ac (by omega))
   clear h8
   go_upto_region 3 with (fail)
   clear d1 d2
   go_wp2_with fail
   go_ret
   exact ⟨by rw [HR.out,H8.out];rfl,jE.out⟩
  have d1:decide ((8:Int) < (x.l.length:Int)) = false:=ac (by omega)
  have d2:decide (8 < x.l.length) = false:=ac h8
  have H8:=ah (show decide (x.l.length≤8) = true from ae (by omega))
  rw [H8.out] at HR
  clear h8
  cases hh:mg x.k with
  | true =>
   rw [hh] at HR
   clear hh
   go_upto_region 4 with (fail)
   clear d1 d2 c0' c11' cl'
   have hS:Chg [] W3 W3.drew:=(Chg.refl [] W3).drew
   refine rgt [0,5,0,0,5,6,5,6,0] [none,none,none,none,none,none,none,none,none] (fun W=>Chg [] W3 W) ?_
   go_wp2_with (first|refine al 42 _ rfl rfl (fun w' J=>cr Tryz.underlying42 (KB.cells (KB.stay jY.out J)).1) hS ?_;go_simp|refine al 38 _ rfl rfl (fun w' J=>fz Tryz.underlying38 (KB.cells (KB.stay jY.out J)).2.2.2.2.2.2.2.2.2.2.2.1) hS ?_;go_simp|refine av fun K I=>?_|refine ai fun K I=>?_;go_simp;refine I _ _ ?_;clear I K|refine ao fun K I=>?_;go_simp|refine aj ?_)
   (refine aw hS fun K I=>?_)
   go_simp
   refine (Of_any (oF.out.stay hS).re (cB x) (gF HX.out) HX.out.k x.l A0 x.l.length c0).mono ?_
   rintro e W4 ⟨rfl,jT⟩
   have mE:Chg [] W3 W4:=hS.stay jT
   refine I _ _ mE ?_
   clear I K jT hS
   go_wp2_with (first|refine al 47 _ rfl rfl (fun w' J=>KB.load (KB.stay jY.out J)) mE ?_|refine av fun K I=>?_|refine ai fun K I=>?_;go_simp;refine I _ _ ?_;clear I K|refine ao fun K I=>?_;go_simp|refine aj ?_)
   (refine aw mE fun K I=>?_)
   go_simp
   refine (zl (x:=ofK x.k (tj x) x.l) (y:=x) (by rw [ofK_l];exact HV.out.stay (jE.out.stay mE)) (HV.out.stay (jE.out.stay mE)) (by rw [ofK_l];exact HX.out.l) HX.out.l).mono ?_
   rintro e W5 ⟨rfl,U⟩
   have nO:Chg [] W3 W5:=mE.stay U
   refine I _ _ nO ?_
   clear I K U mE
   go_wp2_with (first|refine av fun K I=>?_|refine ai fun K I=>?_;go_simp;refine I _ _ ?_;clear I K|refine ao fun K I=>?_;go_simp|refine aj ?_)
   go_ret
   exact ⟨by rw [HR.out];simp,jE.out.stay nO⟩
  | false =>
   rw [hh] at HR
   clear hh
   by_cases h0:0 < x.l.length
   ·have d3:decide ((0:Int) < (x.l.length:Int)) = true:=ae (by omega)
    have d4:decide (0 < x.l.length) = true:=ae h0
    have H0:=ah (show decide (x.l.length = 0) = false from ac (by omega))
    clear h0
    go_upto_region 3 with (fail)
    clear d1 d2 d3 d4
    go_wp2_with fail
    go_ret
    exact ⟨by rw [HR.out,H0.out];rfl,jE.out⟩
   have d3:decide ((0:Int) < (x.l.length:Int)) = false:=ac (by omega)
   have d4:decide (0 < x.l.length) = false:=ac h0
   have H0:=ah (show decide (x.l.length = 0) = true from ae (by omega))
   rw [H0.out] at HR
   clear h0
   go_upto_region 4 with (fail)
   clear d1 d2 d3 d4 c0' c11' cl'
   have hS:Chg [] W3 W3.drew:=(Chg.refl [] W3).drew
   refine rgt [0,5,0,0,5,6,5,6,0] [none,none,none,none,none,none,none,none,none] (fun W=>Chg [] W3 W) ?_
   go_wp2_with (first|refine al 42 _ rfl rfl (fun w' J=>cr Tryz.underlying42 (KB.cells (KB.stay jY.out J)).1) hS ?_;go_simp|refine al 38 _ rfl rfl (fun w' J=>fz Tryz.underlying38 (KB.cells (KB.stay jY.out J)).2.2.2.2.2.2.2.2.2.2.2.1) hS ?_;go_simp|refine av fun K I=>?_|refine ai fun K I=>?_;go_simp;refine I _ _ ?_;clear I K|refine ao fun K I=>?_;go_simp|refine aj ?_)
   (refine aw hS fun K I=>?_)
   go_simp
   refine (Of_any (oF.out.stay hS).re (cB x) (gF HX.out) HX.out.k x.l A0 x.l.length c0).mono ?_
   rintro e W4 ⟨rfl,jT⟩
   have mE:Chg [] W3 W4:=hS.stay jT
   refine I _ _ mE ?_
   clear I K jT hS
   go_wp2_with (first|refine al 47 _ rfl rfl (fun w' J=>KB.load (KB.stay jY.out J)) mE ?_|refine av fun K I=>?_|refine ai fun K I=>?_;go_simp;refine I _ _ ?_;clear I K|refine ao fun K I=>?_;go_simp|refine aj ?_)
   (refine aw mE fun K I=>?_)
   go_simp
   refine (zl (x:=ofK x.k (tj x) x.l) (y:=x) (by rw [ofK_l];exact HV.out.stay (jE.out.stay mE)) (HV.out.stay (jE.out.stay mE)) (by rw [ofK_l];exact HX.out.l) HX.out.l).mono ?_
   rintro e W5 ⟨rfl,U⟩
   have nO:Chg [] W3 W5:=mE.stay U
   refine I _ _ nO ?_
   clear I K U mE
   go_wp2_with (first|refine av fun K I=>?_|refine ai fun K I=>?_;go_simp;refine I _ _ ?_;clear I K|refine ao fun K I=>?_;go_simp|refine aj ?_)
   go_ret
   exact ⟨by rw [HR.out];simp,jE.out.stay nO⟩
structure WR (w W:World) (c:Cf) (x:Cl) (v:Value):Prop where
 cfg:CB W w.heap.size c
 kb:KB W (w.heap.size+1) x v
 chg:Chg [] w W
theorem WR.stay {w W W':World} {c:Cf} {x:Cl} {v:Value} (h:WR w W c x v) (hc:Chg [] W W'):WR w W' c x v :=
 ⟨Blk.chg h.cfg hc ab,KB.stay h.kb hc,h.chg.stay hc⟩
theorem ur {w:World} (c:Cf) {x:Cl} {v:Value} (hx:x.Ok) (hv:RB w v x.l) :
  Calls Tryz.prog 33 #[.agg (cg c),.agg (clc x v)] w fun e w'=>e = .returned (.bool (dg c x))∧Chg [] w w':=by
 obtain ⟨A0,c0,rfl⟩:=RE.form hv
 obtain ⟨W2,jB⟩:∃W2,W2 = (w.alloc (.cells (cg c) 26)).alloc (.cells (clc x (.slice A0 x.l.length c0)) 47):=⟨_,rfl⟩
 have jH:Chg [] w W2:=by rw [jB];exact ((Chg.refl [] w).alloc _).alloc _
 have kF:CB W2 w.heap.size c:=by rw [jB];exact (Blk.new w 26 _).alloc _
 have kU:KB W2 (w.heap.size+1) x (.slice A0 x.l.length c0):=by
  have:=Blk.new (w.alloc (.cells (cg c) 26)) 47 (clc x (.slice A0 x.l.length c0))
  rw [af] at this
  rw [jB]
  exact this
 have HM:=ah (fun W (h:Chg [] w W)=>iP hx (hv.stay h))
 have qN:=ah (fun W=>tg c W)
 have HB:=ah (And.intro kF kU)
 have HC:=ah jH
 have jP:=ah jB
 have HX:=ah hx
 clear hx hv kF kU jH jB
 by_cases vR:mayB c = true
 case neg =>
  have hr:dg c x = true:=by unfold dg;simp [vR]
  rw [hr]
  have mV:mayB c = false:=by simpa using vR
  rw [mV] at qN
  clear hr vR mV
  go_enter Tryz.func33,Tryz.ntmps33
  go_wp2_with (first|refine cb rfl _ rfl rfl ?_|refine ax rfl _ rfl rfl ?_;try simp only [af];try rw [← jP.out]|refine cw (b:=w.heap.size) (c:=c) rfl _ rfl rfl ?_ ?_;(focus exact HB.out.1))
  refine (qN.out _).mono ?_
  rintro e W3 ⟨rfl,jD⟩
  have jE:=ah jD
  clear jD
  go_wp2_with fail
  go_ret
  exact ⟨rfl,HC.out.stay jE.out⟩
 rw [vR] at qN
 have Fj:=ah vR
 clear vR
 by_cases qI:mayR x = true
 case neg =>
  have hr:dg c x = true:=by unfold dg;simp [qI]
  rw [hr]
  have mV:mayR x = false:=by simpa using qI
  rw [mV] at HM
  clear hr qI mV
  go_enter Tryz.func33,Tryz.ntmps33
  go_wp2_with (first|refine cb rfl _ rfl rfl ?_|refine ax rfl _ rfl rfl ?_;try simp only [af];try rw [← jP.out]|refine cw (b:=w.heap.size) (c:=c) rfl _ rfl rfl ?_ ?_;(focus exact HB.out.1))
  refine (qN.out _).mono ?_
  rintro e W3 ⟨rfl,jD⟩
  have jE:=ah jD
  clear jD
  go_wp2_with (first|refine jx (b:=w.heap.size+1) _ rfl rfl ?_ (KB.stay HB.out.2 jE.out) ?_;(focus (simp [Region.wanted,yielded];done)))
  refine (HM.out _ (HC.out.stay jE.out)).mono ?_
  rintro e W4 ⟨rfl,jT⟩
  have jR:=ah jT
  clear jT
  go_wp2_with fail
  go_ret
  exact ⟨rfl,(HC.out.stay jE.out).stay jR.out⟩
 rw [qI] at HM
 have oP:=ah (show dg c x = rwK c x by unfold dg;rw [Fj.out,qI];rfl)
 have lZ:=ah (isK_lt (bT (show lc x = true by rw [← fV HX.out];exact qI)))
 clear qI
 go_enter Tryz.func33,Tryz.ntmps33
 go_wp2_with (first|refine cb rfl _ rfl rfl ?_|refine ax rfl _ rfl rfl ?_;try simp only [af];try rw [← jP.out]|refine cw (b:=w.heap.size) (c:=c) rfl _ rfl rfl ?_ ?_;(focus exact HB.out.1))
 refine (qN.out _).mono ?_
 rintro e W3 ⟨rfl,jD⟩
 have jE:=ah jD
 clear jD
 go_wp2_with (first|refine jx (b:=w.heap.size+1) _ rfl rfl ?_ (KB.stay HB.out.2 jE.out) ?_;(focus (simp [Region.wanted,yielded];done)))
 refine (HM.out _ (HC.out.stay jE.out)).mono ?_
 rintro e W4 ⟨rfl,jT⟩
 have HS:Hid (WR w W4 c x (.slice A0 x.l.length c0)):=ah ⟨Blk.chg (Blk.chg HB.out.1 jE.out ab) jT ab,KB.stay (KB.stay HB.out.2 jE.out) jT,(HC.out.stay jE.out).stay jT⟩
 clear jT jE HB HM qN HC jP
 go_upto_region 3 with (fail)
 obtain ⟨nd,pM⟩:∃z,z = ndB c x:=⟨_,rfl⟩
 have Fl:=ah pM
 clear pM
 go_cut [5] from 17 to 26 (fun z wc=>z = .bool nd∧WR w wc c x (.slice A0 x.l.length c0))
 case first =>
  obtain ⟨-,-,q2,-,-,-,-,-,-,-,-,-,ql,-⟩:=KB.cells HS.out.kb
  have qc:=CB.get HS.out.cfg (i:=0) (by omega)
  by_cases h:x.n < 0
  ·have d:decide (x.n < 0) = true:=ae h
   have hr:nd = true:=by rw [Fl.out];unfold ndB;exact ae (.inl h)
   have jC:=ah hr
   clear h hr
   go_wp2_with fail
   go_meet
   case rel=>exact ⟨congrArg Value.bool jC.out.symm,HS.out⟩
  ·have d:decide (x.n < 0) = false:=ac h
   have hr:nd = decide (c 0≤x.n):=by rw [Fl.out];unfold ndB;simp [h]
   have jC:=ah hr
   clear h hr
   go_wp2_with fail
   go_meet
   case rel=>exact ⟨congrArg Value.bool jC.out.symm,HS.out⟩
 obtain ⟨rfl,h5⟩:=hcut
 clear HS
 have HS:=ah h5
 clear h5
 obtain ⟨-,-,-,q3,q4,-,-,-,-,-,-,-,ql,-⟩:=KB.cells HS.out.kb
 go_wp2_with fail
 refine (eH x.g x.c _).mono ?_
 rintro e W5 ⟨rfl,U⟩
 have HS5:=ah (HS.out.stay U)
 clear HS U q3 q4 ql
 obtain ⟨pg,tQ⟩:∃z,z = pgs x.g x.c:=⟨_,rfl⟩
 rw [← tQ]
 have qO:=ah (show pg = pgB x from tQ)
 clear tQ
 have HS:=ah HS5.out
 clear HS5
 obtain ⟨q0,-,-,q3,-,q5,q6,q7,-,-,-,q11,ql,-⟩:=KB.cells HS.out.kb
 go_upto_region 6 with (fail)
 obtain ⟨sz0,DE⟩:∃z:Int,z = x.s:=⟨_,rfl⟩
 rw [← DE]
 have AS:=ah DE
 clear DE
 have HRL:=ah HX.out.r
 by_cases hk9:x.k = 9
 ·have uB:=ah (show ns x = (x.l.length:Int) by unfold ns;rw [if_pos (.inl hk9)])
  have hk:=hk9
  rw [hk] at q0
  go_upto_region 8 with (fail)
  clear q0 q3 q5 q6 q7 q11 ql AS
  generalize (x.l.length:Int) = sz1 at uB ⊢
  obtain ⟨sz2,lY⟩:∃z:Int,z = sz1:=⟨_,rfl⟩
  rw [← lY]
  have sH:=ah (show sz2 = ns x from lY.trans uB.out.symm)
  clear lY uB
  obtain ⟨fw,uO⟩:∃z,z = fewB x:=⟨_,rfl⟩
  have tV:=ah (show fw = decide (sz2 < 1∨8 < sz2) by rw [uO];unfold fewB;rw [sH.out])
  have sD:=ah uO
  clear uO
  go_cut [8] from 46 to 51 (fun z wc=>z = .bool fw∧WR w wc c x (.slice A0 x.l.length c0))
  case first =>
   by_cases h:sz2 < 1
   ·have d:decide (sz2 < 1) = true:=ae h
    have jC:=ah (show fw = true by rw [tV.out];exact ae (.inl h))
    clear h
    go_wp2_with fail
    go_meet
    case rel=>exact ⟨congrArg Value.bool jC.out.symm,HS.out⟩
   ·have d:decide (sz2 < 1) = false:=ac h
    have jC:=ah (show fw = decide (8 < sz2) by rw [tV.out];simp [h])
    clear h
    go_wp2_with fail
    go_meet
    case rel=>exact ⟨congrArg Value.bool jC.out.symm,HS.out⟩
  obtain ⟨rfl,h5⟩:=hcut
  clear HS
  have HS:=ah h5
  clear h5
  obtain ⟨q0,-,-,q3,-,q5,q6,q7,-,-,-,q11,ql,-⟩:=KB.cells HS.out.kb
  rw [hk] at q0
  have jC:=ah (show dg c x = (fw || decide (x.a < 0∨262144≤x.a∨x.a / 256≠(x.a+sz2 - 1) / 256)) by rw [oP.out];unfold rwK;simp only [hk];unfold r8B;rw [sD.out,sH.out])
  clear hk
  cases fw with
  | true =>
   go_wp2_with fail
   go_ret
   exact ⟨congrArg (fun b=>Ending.returned (.bool b)) (by first|(rw [jC.out];done)|(rw [jC.out];simp;done)),HS.out.chg⟩
  | false =>
   by_cases h1:x.a < 0
   ·have dh1:decide (x.a < 0) = true:=ae h1
    have H1:=ah h1
    clear h1
    go_wp2_with fail
    go_ret
    exact ⟨congrArg (fun b=>Ending.returned (.bool b)) (by first|(rw [jC.out];done)|(rw [jC.out];simp;done)|(have gH1:=H1.out;rw [jC.out,Bool.eq_iff_iff];simp;omega)),HS.out.chg⟩
   ·have dh1:decide (x.a < 0) = false:=ac h1
    have H1:=ah h1
    by_cases h2:262144≤x.a
    ·have dh2:decide (262144≤x.a) = true:=ae h2
     have H2:=ah h2
     clear h2
     clear h1
     go_wp2_with fail
     go_ret
     exact ⟨congrArg (fun b=>Ending.returned (.bool b)) (by first|(rw [jC.out];done)|(rw [jC.out];simp;done)|(have gH1:=H1.out;have gH2:=H2.out;rw [jC.out,Bool.eq_iff_iff];simp;omega)),HS.out.chg⟩
    ·have dh2:decide (262144≤x.a) = false:=ac h2
     have H2:=ah h2
     have hz:1≤sz2∧sz2≤8:=by have:=of_decide_eq_false tV.out.symm;omega
     have e1:wrap64 (x.a.tdiv 256) = x.a / 256:=by rw [Int.tdiv_eq_ediv_of_nonneg (by omega)];unfold wrap64;omega
     have e2:wrap64 (x.a+sz2) = x.a+sz2:=by unfold wrap64;omega
     have e3:wrap64 (x.a+sz2 - 1) = x.a+sz2 - 1:=by unfold wrap64;omega
     have e4:wrap64 ((x.a+sz2 - 1).tdiv 256) = (x.a+sz2 - 1) / 256:=by rw [Int.tdiv_eq_ediv_of_nonneg (by omega)];unfold wrap64;omega
     clear h1 h2 hz
     go_wp2_with fail
     go_ret
     exact ⟨congrArg (fun b=>Ending.returned (.bool b)) (by first|(rw [jC.out];done)|(rw [jC.out];simp;done)|(have gH1:=H1.out;have gH2:=H2.out;rw [jC.out,Bool.eq_iff_iff];simp;omega)),HS.out.chg⟩
 by_cases Bf:x.k = 13
 ·have uB:=ah (show ns x = (x.l.length:Int) by unfold ns;rw [if_pos (.inr Bf)])
  have hk:=Bf
  rw [hk] at q0
  go_upto_region 8 with (fail)
  clear q0 q3 q5 q6 q7 q11 ql AS
  generalize (x.l.length:Int) = sz1 at uB ⊢
  obtain ⟨sz2,lY⟩:∃z:Int,z = sz1:=⟨_,rfl⟩
  rw [← lY]
  have sH:=ah (show sz2 = ns x from lY.trans uB.out.symm)
  clear lY uB
  obtain ⟨fw,uO⟩:∃z,z = fewB x:=⟨_,rfl⟩
  have tV:=ah (show fw = decide (sz2 < 1∨8 < sz2) by rw [uO];unfold fewB;rw [sH.out])
  have sD:=ah uO
  clear uO
  go_cut [8] from 46 to 51 (fun z wc=>z = .bool fw∧WR w wc c x (.slice A0 x.l.length c0))
  case first =>
   by_cases h:sz2 < 1
   ·have d:decide (sz2 < 1) = true:=ae h
    have jC:=ah (show fw = true by rw [tV.out];exact ae (.inl h))
    clear h
    go_wp2_with fail
    go_meet
    case rel=>exact ⟨congrArg Value.bool jC.out.symm,HS.out⟩
   ·have d:decide (sz2 < 1) = false:=ac h
    have jC:=ah (show fw = decide (8 < sz2) by rw [tV.out];simp [h])
    clear h
    go_wp2_with fail
    go_meet
    case rel=>exact ⟨congrArg Value.bool jC.out.symm,HS.out⟩
  obtain ⟨rfl,h5⟩:=hcut
  clear HS
  have HS:=ah h5
  clear h5
  obtain ⟨q0,-,-,q3,-,q5,q6,q7,-,-,-,q11,ql,-⟩:=KB.cells HS.out.kb
  rw [hk] at q0
  have jC:=ah (show dg c x = (fw || decide (x.a < 0∨128 < x.a∨128 < x.a+sz2)) by rw [oP.out];unfold rwK;simp only [hk];unfold r12B;rw [sD.out,sH.out])
  clear hk
  cases fw with
  | true =>
   go_wp2_with fail
   go_ret
   exact ⟨congrArg (fun b=>Ending.returned (.bool b)) (by first|(rw [jC.out];done)|(rw [jC.out];simp;done)),HS.out.chg⟩
  | false =>
   by_cases h1:x.a < 0
   ·have dh1:decide (x.a < 0) = true:=ae h1
    have H1:=ah h1
    clear h1
    go_wp2_with fail
    go_ret
    exact ⟨congrArg (fun b=>Ending.returned (.bool b)) (by first|(rw [jC.out];done)|(rw [jC.out];simp;done)|(have gH1:=H1.out;rw [jC.out,Bool.eq_iff_iff];simp;omega)),HS.out.chg⟩
   ·have dh1:decide (x.a < 0) = false:=ac h1
    have H1:=ah h1
    by_cases h2:128 < x.a
    ·have dh2:decide (128 < x.a) = true:=ae h2
     have H2:=ah h2
     clear h2
     clear h1
     go_wp2_with fail
     go_ret
     exact ⟨congrArg (fun b=>Ending.returned (.bool b)) (by first|(rw [jC.out];done)|(rw [jC.out];simp;done)|(have gH1:=H1.out;have gH2:=H2.out;rw [jC.out,Bool.eq_iff_iff];simp;omega)),HS.out.chg⟩
    ·have dh2:decide (128 < x.a) = false:=ac h2
     have H2:=ah h2
     have hz:1≤sz2∧sz2≤8:=by have:=of_decide_eq_false tV.out.symm;omega
     have e2:wrap64 (x.a+sz2) = x.a+sz2:=by unfold wrap64;omega
     clear h1 h2 hz
     go_wp2_with fail
     go_ret
     exact ⟨congrArg (fun b=>Ending.returned (.bool b)) (by first|(rw [jC.out];done)|(rw [jC.out];simp;done)|(have gH1:=H1.out;have gH2:=H2.out;rw [jC.out,Bool.eq_iff_iff];simp;omega)),HS.out.chg⟩
 have sH:=ah (show sz0 = ns x by unfold ns;rw [if_neg (by omega),AS.out])
 have HK9:=ah (And.intro hk9 Bf)
 obtain ⟨k0,oB⟩:∃z:Int,z = (x.k:Int):=⟨_,rfl⟩
 have e9:(k0 == 9) = false:=beq_false_of_ne (by omega)
 have e13:(k0 == 13) = false:=beq_false_of_ne (by omega)
 have e9':¬ k0 = 9:=by omega
 have e13':¬ k0 = 13:=by omega
 rw [← oB] at q0
 have mN:=ah oB
 clear hk9 Bf oB
 go_upto_region 8 with (fail)
 clear e9 e13 e9' e13' q0 q3 q5 q6 q7 q11 ql
 rw [mN.out]
 clear mN k0
 obtain ⟨fw,uO⟩:∃z,z = fewB x:=⟨_,rfl⟩
 have tV:=ah (show fw = decide (sz0 < 1∨8 < sz0) by rw [uO];unfold fewB;rw [sH.out])
 have sD:=ah uO
 clear uO
 go_cut [8] from 46 to 51 (fun z wc=>z = .bool fw∧WR w wc c x (.slice A0 x.l.length c0))
 case first =>
  by_cases h:sz0 < 1
  ·have d:decide (sz0 < 1) = true:=ae h
   have jC:=ah (show fw = true by rw [tV.out];exact ae (.inl h))
   clear h
   go_wp2_with fail
   go_meet
   case rel=>exact ⟨congrArg Value.bool jC.out.symm,HS.out⟩
  ·have d:decide (sz0 < 1) = false:=ac h
   have jC:=ah (show fw = decide (8 < sz0) by rw [tV.out];simp [h])
   clear h
   go_wp2_with fail
   go_meet
   case rel=>exact ⟨congrArg Value.bool jC.out.symm,HS.out⟩
 obtain ⟨rfl,h5⟩:=hcut
 clear HS
 have HS:=ah h5
 clear h5
 obtain ⟨q0,-,-,q3,-,q5,q6,q7,-,-,-,q11,ql,-⟩:=KB.cells HS.out.kb
 rcases (by have:=lZ.out;have:=HK9.out;omega:x.k = 1∨x.k = 2∨x.k = 3∨x.k = 4∨x.k = 5∨x.k = 6∨x.k = 7∨x.k = 8∨x.k = 10∨x.k = 11∨x.k = 12∨x.k = 14∨x.k = 15∨x.k = 16∨x.k = 17∨x.k = 18∨x.k = 19∨x.k = 20∨x.k = 21) with hk | hk | hk | hk | hk | hk | hk | hk | hk | hk | hk | hk | hk | hk | hk | hk | hk | hk | hk
 ·rw [hk] at q0
  have jC:=ah (show dg c x = (false) by rw [oP.out];unfold rwK;simp only [hk])
  clear hk
  go_wp2_with fail
  go_ret
  exact ⟨congrArg (fun b=>Ending.returned (.bool b)) jC.out.symm,HS.out.chg⟩
 ·rw [hk] at q0
  have jC:=ah (show dg c x = (false) by rw [oP.out];unfold rwK;simp only [hk])
  clear hk
  go_wp2_with fail
  go_ret
  exact ⟨congrArg (fun b=>Ending.returned (.bool b)) jC.out.symm,HS.out.chg⟩
 ·rw [hk] at q0
  have jC:=ah (show dg c x = (!pg || decide (x.r < 1∨3 < x.r)) by rw [oP.out];unfold rwK;simp only [hk];rw [qO.out])
  clear hk
  obtain ⟨r0,rO⟩:∃z:Int,z = (x.r:Int):=⟨_,rfl⟩
  rw [← rO] at q7
  have uA:=ah (show decide (x.r < 1∨3 < x.r) = decide (r0 < 1∨3 < r0) by rw [rO,decide_eq_decide];omega)
  rw [uA.out] at jC
  clear rO uA
  cases pg with
  | false =>
   go_wp2_with fail
   go_ret
   exact ⟨congrArg (fun b=>Ending.returned (.bool b)) (by first|(rw [jC.out];done)|(rw [jC.out];simp;done)),HS.out.chg⟩
  | true =>
   by_cases h1:r0 < 1
   ·have dh1:decide (r0 < 1) = true:=ae h1
    have H1:=ah h1
    clear h1
    go_wp2_with fail
    go_ret
    exact ⟨congrArg (fun b=>Ending.returned (.bool b)) (by first|(rw [jC.out];done)|(rw [jC.out];simp;done)|(have gH1:=H1.out;rw [jC.out,Bool.eq_iff_iff];simp;omega)),HS.out.chg⟩
   ·have dh1:decide (r0 < 1) = false:=ac h1
    have H1:=ah h1
    clear h1
    by_cases h2:3 < r0
    ·have dh2:decide (3 < r0) = true:=ae h2
     have H2:=ah h2
     clear h2
     go_wp2_with fail
     go_ret
     exact ⟨congrArg (fun b=>Ending.returned (.bool b)) (by first|(rw [jC.out];done)|(rw [jC.out];simp;done)|(have gH1:=H1.out;have gH2:=H2.out;rw [jC.out,Bool.eq_iff_iff];simp;omega)),HS.out.chg⟩
    ·have dh2:decide (3 < r0) = false:=ac h2
     have H2:=ah h2
     clear h2
     go_wp2_with fail
     go_ret
     exact ⟨congrArg (fun b=>Ending.returned (.bool b)) (by first|(rw [jC.out];done)|(rw [jC.out];simp;done)|(have gH1:=H1.out;have gH2:=H2.out;rw [jC.out,Bool.eq_iff_iff];simp;omega)),HS.out.chg⟩
 ·rw [hk] at q0
  have jC:=ah (show dg c x = (!pg) by rw [oP.out];unfold rwK;simp only [hk];rw [qO.out])
  clear hk
  go_wp2_with fail
  go_ret
  exact ⟨congrArg (fun b=>Ending.returned (.bool b)) (by first|(rw [jC.out];done)|(rw [jC.out];simp;done)),HS.out.chg⟩
 ·rw [hk] at q0
  have jC:=ah (show dg c x = (!pg || decide (x.r < 1∨3 < x.r)) by rw [oP.out];unfold rwK;simp only [hk];rw [qO.out])
  clear hk
  obtain ⟨r0,rO⟩:∃z:Int,z = (x.r:Int):=⟨_,rfl⟩
  rw [← rO] at q7
  have uA:=ah (show decide (x.r < 1∨3 < x.r) = decide (r0 < 1∨3 < r0) by rw [rO,decide_eq_decide];omega)
  rw [uA.out] at jC
  clear rO uA
  cases pg with
  | false =>
   go_wp2_with fail
   go_ret
   exact ⟨congrArg (fun b=>Ending.returned (.bool b)) (by first|(rw [jC.out];done)|(rw [jC.out];simp;done)),HS.out.chg⟩
  | true =>
   by_cases h1:r0 < 1
   ·have dh1:decide (r0 < 1) = true:=ae h1
    have H1:=ah h1
    clear h1
    go_wp2_with fail
    go_ret
    exact ⟨congrArg (fun b=>Ending.returned (.bool b)) (by first|(rw [jC.out];done)|(rw [jC.out];simp;done)|(have gH1:=H1.out;rw [jC.out,Bool.eq_iff_iff];simp;omega)),HS.out.chg⟩
   ·have dh1:decide (r0 < 1) = false:=ac h1
    have H1:=ah h1
    clear h1
    by_cases h2:3 < r0
    ·have dh2:decide (3 < r0) = true:=ae h2
     have H2:=ah h2
     clear h2
     go_wp2_with fail
     go_ret
     exact ⟨congrArg (fun b=>Ending.returned (.bool b)) (by first|(rw [jC.out];done)|(rw [jC.out];simp;done)|(have gH1:=H1.out;have gH2:=H2.out;rw [jC.out,Bool.eq_iff_iff];simp;omega)),HS.out.chg⟩
    ·have dh2:decide (3 < r0) = false:=ac h2
     have H2:=ah h2
     clear h2
     go_wp2_with fail
     go_ret
     exact ⟨congrArg (fun b=>Ending.returned (.bool b)) (by first|(rw [jC.out];done)|(rw [jC.out];simp;done)|(have gH1:=H1.out;have gH2:=H2.out;rw [jC.out,Bool.eq_iff_iff];simp;omega)),HS.out.chg⟩
 ·rw [hk] at q0
  have jC:=ah (show dg c x = (!pg) by rw [oP.out];unfold rwK;simp only [hk];rw [qO.out])
  clear hk
  go_wp2_with fail
  go_ret
  exact ⟨congrArg (fun b=>Ending.returned (.bool b)) (by first|(rw [jC.out];done)|(rw [jC.out];simp;done)),HS.out.chg⟩
 ·rw [hk] at q0
  have jC:=ah (show dg c x = (!pg) by rw [oP.out];unfold rwK;simp only [hk];rw [qO.out])
  clear hk
  go_wp2_with fail
  go_ret
  exact ⟨congrArg (fun b=>Ending.returned (.bool b)) (by first|(rw [jC.out];done)|(rw [jC.out];simp;done)),HS.out.chg⟩
 ·rw [hk] at q0
  have jC:=ah (show dg c x = (fw || decide (x.a < 0∨262144≤x.a∨x.a / 256≠(x.a+sz0 - 1) / 256)) by rw [oP.out];unfold rwK;simp only [hk];unfold r8B;rw [sD.out,sH.out])
  clear hk
  cases fw with
  | true =>
   go_wp2_with fail
   go_ret
   exact ⟨congrArg (fun b=>Ending.returned (.bool b)) (by first|(rw [jC.out];done)|(rw [jC.out];simp;done)),HS.out.chg⟩
  | false =>
   by_cases h1:x.a < 0
   ·have dh1:decide (x.a < 0) = true:=ae h1
    have H1:=ah h1
    clear h1
    go_wp2_with fail
    go_ret
    exact ⟨congrArg (fun b=>Ending.returned (.bool b)) (by first|(rw [jC.out];done)|(rw [jC.out];simp;done)|(have gH1:=H1.out;rw [jC.out,Bool.eq_iff_iff];simp;omega)),HS.out.chg⟩
   ·have dh1:decide (x.a < 0) = false:=ac h1
    have H1:=ah h1
    by_cases h2:262144≤x.a
    ·have dh2:decide (262144≤x.a) = true:=ae h2
     have H2:=ah h2
     clear h2
     clear h1
     go_wp2_with fail
     go_ret
     exact ⟨congrArg (fun b=>Ending.returned (.bool b)) (by first|(rw [jC.out];done)|(rw [jC.out];simp;done)|(have gH1:=H1.out;have gH2:=H2.out;rw [jC.out,Bool.eq_iff_iff];simp;omega)),HS.out.chg⟩
    ·have dh2:decide (262144≤x.a) = false:=ac h2
     have H2:=ah h2
     have hz:1≤sz0∧sz0≤8:=by have:=of_decide_eq_false tV.out.symm;omega
     have e1:wrap64 (x.a.tdiv 256) = x.a / 256:=by rw [Int.tdiv_eq_ediv_of_nonneg (by omega)];unfold wrap64;omega
     have e2:wrap64 (x.a+sz0) = x.a+sz0:=by unfold wrap64;omega
     have e3:wrap64 (x.a+sz0 - 1) = x.a+sz0 - 1:=by unfold wrap64;omega
     have e4:wrap64 ((x.a+sz0 - 1).tdiv 256) = (x.a+sz0 - 1) / 256:=by rw [Int.tdiv_eq_ediv_of_nonneg (by omega)];unfold wrap64;omega
     clear h1 h2 hz
     go_wp2_with fail
     go_ret
     exact ⟨congrArg (fun b=>Ending.returned (.bool b)) (by first|(rw [jC.out];done)|(rw [jC.out];simp;done)|(have gH1:=H1.out;have gH2:=H2.out;rw [jC.out,Bool.eq_iff_iff];simp;omega)),HS.out.chg⟩
 ·rw [hk] at q0
  have jC:=ah (show dg c x = (decide (sz0 < 1∨128 < sz0)) by rw [oP.out];unfold rwK;simp only [hk];rw [AS.out])
  clear hk
  by_cases h1:sz0 < 1
  ·have dh1:decide (sz0 < 1) = true:=ae h1
   have H1:=ah h1
   clear h1
   go_wp2_with fail
   go_ret
   exact ⟨congrArg (fun b=>Ending.returned (.bool b)) (by first|(rw [jC.out];done)|(rw [jC.out];simp;done)|(have gH1:=H1.out;rw [jC.out,Bool.eq_iff_iff];simp;omega)),HS.out.chg⟩
  ·have dh1:decide (sz0 < 1) = false:=ac h1
   have H1:=ah h1
   clear h1
   go_wp2_with fail
   go_ret
   exact ⟨congrArg (fun b=>Ending.returned (.bool b)) (by first|(rw [jC.out];done)|(rw [jC.out];simp;done)|(have gH1:=H1.out;rw [jC.out,Bool.eq_iff_iff];simp;omega)),HS.out.chg⟩
 ·rw [hk] at q0
  have jC:=ah (show dg c x = (false) by rw [oP.out];unfold rwK;simp only [hk])
  clear hk
  go_wp2_with fail
  go_ret
  exact ⟨congrArg (fun b=>Ending.returned (.bool b)) jC.out.symm,HS.out.chg⟩
 ·rw [hk] at q0
  have jC:=ah (show dg c x = (fw || decide (x.a < 0∨128 < x.a∨128 < x.a+sz0)) by rw [oP.out];unfold rwK;simp only [hk];unfold r12B;rw [sD.out,sH.out])
  clear hk
  cases fw with
  | true =>
   go_wp2_with fail
   go_ret
   exact ⟨congrArg (fun b=>Ending.returned (.bool b)) (by first|(rw [jC.out];done)|(rw [jC.out];simp;done)),HS.out.chg⟩
  | false =>
   by_cases h1:x.a < 0
   ·have dh1:decide (x.a < 0) = true:=ae h1
    have H1:=ah h1
    clear h1
    go_wp2_with fail
    go_ret
    exact ⟨congrArg (fun b=>Ending.returned (.bool b)) (by first|(rw [jC.out];done)|(rw [jC.out];simp;done)|(have gH1:=H1.out;rw [jC.out,Bool.eq_iff_iff];simp;omega)),HS.out.chg⟩
   ·have dh1:decide (x.a < 0) = false:=ac h1
    have H1:=ah h1
    by_cases h2:128 < x.a
    ·have dh2:decide (128 < x.a) = true:=ae h2
     have H2:=ah h2
     clear h2
     clear h1
     go_wp2_with fail
     go_ret
     exact ⟨congrArg (fun b=>Ending.returned (.bool b)) (by first|(rw [jC.out];done)|(rw [jC.out];simp;done)|(have gH1:=H1.out;have gH2:=H2.out;rw [jC.out,Bool.eq_iff_iff];simp;omega)),HS.out.chg⟩
    ·have dh2:decide (128 < x.a) = false:=ac h2
     have H2:=ah h2
     have hz:1≤sz0∧sz0≤8:=by have:=of_decide_eq_false tV.out.symm;omega
     have e2:wrap64 (x.a+sz0) = x.a+sz0:=by unfold wrap64;omega
     clear h1 h2 hz
     go_wp2_with fail
     go_ret
     exact ⟨congrArg (fun b=>Ending.returned (.bool b)) (by first|(rw [jC.out];done)|(rw [jC.out];simp;done)|(have gH1:=H1.out;have gH2:=H2.out;rw [jC.out,Bool.eq_iff_iff];simp;omega)),HS.out.chg⟩
 ·rw [hk] at q0
  have jC:=ah (show dg c x = (!tf c x.ok x.om) by rw [oP.out];unfold rwK;simp only [hk])
  clear hk
  have HP:=ah (fun W=>zm c HX.out.ok HX.out.om W)
  obtain ⟨-,-,-,-,-,-,-,-,q8,q9,-,-,-,-⟩:=KB.cells HS.out.kb
  go_wp2_with (first|refine cw (b:=w.heap.size) (c:=c) rfl _ rfl rfl ?_ ?_;(focus exact HS.out.cfg))
  refine (HP.out _).mono ?_
  rintro e W6 ⟨rfl,iZ⟩
  have AQ:=ah (HS.out.stay iZ)
  clear iZ
  go_wp2_with fail
  go_ret
  exact ⟨congrArg (fun b=>Ending.returned (.bool b)) (by first|(rw [jC.out];done)|(rw [jC.out];simp;done)),AQ.out.chg⟩
 ·rw [hk] at q0
  have jC:=ah (show dg c x = (!pg || !tf c x.ok x.om) by rw [oP.out];unfold rwK;simp only [hk];rw [qO.out])
  clear hk
  have HP:=ah (fun W=>zm c HX.out.ok HX.out.om W)
  obtain ⟨-,-,-,-,-,-,-,-,q8,q9,-,-,-,-⟩:=KB.cells HS.out.kb
  cases pg with
  | false =>
   go_wp2_with fail
   go_ret
   exact ⟨congrArg (fun b=>Ending.returned (.bool b)) (by first|(rw [jC.out];done)|(rw [jC.out];simp;done)),HS.out.chg⟩
  | true =>
   go_wp2_with (first|refine mb (b:=w.heap.size) (c:=c) _ rfl rfl ?_ HS.out.cfg ?_;(focus (simp [Region.wanted,yielded];done)))
   refine (HP.out _).mono ?_
   rintro e W6 ⟨rfl,iZ⟩
   have AQ:=ah (HS.out.stay iZ)
   clear iZ
   go_wp2_with fail
   go_ret
   exact ⟨congrArg (fun b=>Ending.returned (.bool b)) (by first|(rw [jC.out];done)|(rw [jC.out];simp;done)),AQ.out.chg⟩
 ·rw [hk] at q0
  have jC:=ah (show dg c x = (decide (x.g < 0∨1023 < x.g)) by rw [oP.out];unfold rwK;simp only [hk])
  clear hk
  by_cases h1:x.g < 0
  ·have dh1:decide (x.g < 0) = true:=ae h1
   have H1:=ah h1
   clear h1
   go_wp2_with fail
   go_ret
   exact ⟨congrArg (fun b=>Ending.returned (.bool b)) (by first|(rw [jC.out];done)|(rw [jC.out];simp;done)|(have gH1:=H1.out;rw [jC.out,Bool.eq_iff_iff];simp;omega)),HS.out.chg⟩
  ·have dh1:decide (x.g < 0) = false:=ac h1
   have H1:=ah h1
   clear h1
   go_wp2_with fail
   go_ret
   exact ⟨congrArg (fun b=>Ending.returned (.bool b)) (by first|(rw [jC.out];done)|(rw [jC.out];simp;done)|(have gH1:=H1.out;rw [jC.out,Bool.eq_iff_iff];simp;omega)),HS.out.chg⟩
 ·rw [hk] at q0
  have jC:=ah (show dg c x = (decide (x.g < 0∨1023 < x.g)) by rw [oP.out];unfold rwK;simp only [hk])
  clear hk
  by_cases h1:x.g < 0
  ·have dh1:decide (x.g < 0) = true:=ae h1
   have H1:=ah h1
   clear h1
   go_wp2_with fail
   go_ret
   exact ⟨congrArg (fun b=>Ending.returned (.bool b)) (by first|(rw [jC.out];done)|(rw [jC.out];simp;done)|(have gH1:=H1.out;rw [jC.out,Bool.eq_iff_iff];simp;omega)),HS.out.chg⟩
  ·have dh1:decide (x.g < 0) = false:=ac h1
   have H1:=ah h1
   clear h1
   go_wp2_with fail
   go_ret
   exact ⟨congrArg (fun b=>Ending.returned (.bool b)) (by first|(rw [jC.out];done)|(rw [jC.out];simp;done)|(have gH1:=H1.out;rw [jC.out,Bool.eq_iff_iff];simp;omega)),HS.out.chg⟩
 ·rw [hk] at q0
  have jC:=ah (show dg c x = (!pg || nd) by rw [oP.out];unfold rwK;simp only [hk];rw [qO.out,Fl.out])
  clear hk
  cases pg with
  | false =>
   go_wp2_with fail
   go_ret
   exact ⟨congrArg (fun b=>Ending.returned (.bool b)) (by first|(rw [jC.out];done)|(rw [jC.out];simp;done)),HS.out.chg⟩
  | true =>
   go_wp2_with fail
   go_ret
   exact ⟨congrArg (fun b=>Ending.returned (.bool b)) (by first|(rw [jC.out];done)|(rw [jC.out];simp;done)),HS.out.chg⟩
 ·rw [hk] at q0
  have jC:=ah (show dg c x = (nd) by rw [oP.out];unfold rwK;simp only [hk];rw [Fl.out])
  clear hk
  go_wp2_with fail
  go_ret
  exact ⟨congrArg (fun b=>Ending.returned (.bool b)) (by first|(rw [jC.out];done)|(rw [jC.out];simp;done)),HS.out.chg⟩
 ·rw [hk] at q0
  have jC:=ah (show dg c x = (nd) by rw [oP.out];unfold rwK;simp only [hk];rw [Fl.out])
  clear hk
  go_wp2_with fail
  go_ret
  exact ⟨congrArg (fun b=>Ending.returned (.bool b)) (by first|(rw [jC.out];done)|(rw [jC.out];simp;done)),HS.out.chg⟩
 ·rw [hk] at q0
  have jC:=ah (show dg c x = (false) by rw [oP.out];unfold rwK;simp only [hk])
  clear hk
  go_wp2_with fail
  go_ret
  exact ⟨congrArg (fun b=>Ending.returned (.bool b)) jC.out.symm,HS.out.chg⟩
end Go.Proofs.YtfoleblcaloeoaaGreatDoor
