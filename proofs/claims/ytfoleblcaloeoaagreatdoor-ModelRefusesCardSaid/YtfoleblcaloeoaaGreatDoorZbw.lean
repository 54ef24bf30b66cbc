/- Texts merged for the claim. -/
import Derived.Test.YtfoleblcaloeoaaGreatDoorZbv
set_option maxHeartbeats 40000000
set_option maxRecDepth 20000
namespace Go.Proofs.YtfoleblcaloeoaaGreatDoor
open Go Go.RowKit
structure BW (l:List (Nat × Value)) (c:Cf):Prop where
 h:Tryz.prog.built 79 l = some (wmc c (fun _=>none) zV zV)
theorem bw_of (c:Cf):BW [(0,.agg (cg c))] c:=⟨by kernel_rfl⟩
theorem xk {ops:Array Oper} {rest:List Oper} {o:Oper} {a:Act} {w:World} {Q:Exit→Act→World→Prop} {c:Cf} (hg:o.guard = none) (parts:Array (Nat × Operand)) (ho:o.op = .build 79 parts)
  {l:List (Nat × Value)} (hb:BW l c) (hl:(parts.map fun (i,x)=>(i,a.eval x)).toList = l) (h:wpList Tryz.prog ops Q rest (a.put o.dst (.agg (wmc c (fun _=>none) zV zV))) w):wpList Tryz.prog ops Q (o :: rest) a w :=
 wpList_build hg 79 parts ho (by rw [hl,hb.h];rfl) (by rw [hl,hb.h];exact h)
theorem aY {ops:Array Oper} {rest:List Oper} {o:Oper} {a:Act} {w:World} {Q:Exit→Act→World→Prop} {c:Cf} {sp:Nat→Option Nat} {vo ve:Value} (hg:o.guard = none) (z:Operand) (ho:o.op = .box 79 z) (hx:a.eval z = .agg (wmc c sp vo ve))
  (h:∀w',WB w' w.heap.size c sp vo ve→Chg [] w w'→w'.heap.size = w.heap.size+1→wpList Tryz.prog ops Q rest (a.put o.dst (.pointer (some ⟨w.heap.size,0,none⟩))) w'):wpList Tryz.prog ops Q (o :: rest) a w :=
 Great.wpList_runTo hg _ rfl _ _ (by unfold execOp;simp only [ho,hx,Sem.run_bind,Instr.box,newVar,newRow,run_newObj_alloc,Sem.run_pure,Result.andThen_ok,Value.cells]) (h _ (Blk.new w _ _) ((Chg.refl [] w).alloc _) (af _ _))
theorem WIn.fresh {w:World} {b:Nat} {c:Cf} (h:WB w b c (fun _=>none) zV zV):WIn w b (nk c) (fun _=>none) zV zV [] [] (fun _=>0) (fun _=>0) (fun _=>zSq) :=
 ⟨h,⟨SE.nil _ _ _ _,fun o ho=>(by cases ho),List.Pairwise.nil,List.Pairwise.nil,fun _=>rfl⟩,⟨SE.nil _ _ _ _,fun e he=>(by cases he),fun _=>rfl⟩,fun _ _=>rfl,fun z p hp=>(by cases hp),fun n p hp=>(by cases hp),fun n n' p p' hp=>(by cases hp)⟩
theorem rNew_any (c:Cf) (w:World):Calls Tryz.prog 9 #[.agg (cg c)] w fun e w' =>
  ((mayB c = false∧e = .returned (.tuple #[.pointer none,.int .i64 2]))∨(mayB c = true∧∃b,e = .returned (.tuple #[.pointer (some ⟨b,0,none⟩),.int .i64 0])∧WN w' b (nk c) (fun k=>k = b) 0∧w.heap.size≤b))∧Chg [] w w':=by
 obtain ⟨W1,jG⟩:∃W1,W1 = w.alloc (.cells (cg c) 26):=⟨_,rfl⟩
 have hb:CB W1 w.heap.size c:=by rw [jG];exact Blk.new w 26 _
 have jH:Chg [] w W1:=by rw [jG];exact (Chg.refl [] w).alloc _
 have kW:=ah jG
 have HB:=ah hb
 have lD:=ah jH
 have qN:=ah (fun W=>tg c W)
 have HBW:=ah (bw_of c)
 clear jG hb jH
 cases hm:mayB c with
 | false =>
  rw [hm] at qN
  go_enter Tryz.func9,Tryz.ntmps9
  go_wp2_with (first|refine cb rfl _ rfl rfl ?_;try rw [← kW.out]|refine cw (b:=w.heap.size) (c:=c) rfl _ rfl rfl ?_ ?_;(focus exact HB.out))
  refine (qN.out _).mono ?_
  rintro e W3 ⟨rfl,jD⟩
  have jE:=ah jD
  clear jD
  go_wp2_with fail
  refine bodyPost_ret (v:=.tuple #[.pointer none,.int .i64 2]) (by simp [results,Tryz.results9]) rfl ?_
  exact ⟨.inl ⟨by first | rfl | trivial,rfl⟩,lD.out.stay jE.out⟩
 | true =>
  rw [hm] at qN
  go_enter Tryz.func9,Tryz.ntmps9
  go_wp2_with (first|refine cb rfl _ rfl rfl ?_;try rw [← kW.out]|refine cw (b:=w.heap.size) (c:=c) rfl _ rfl rfl ?_ ?_;(focus exact HB.out))
  refine (qN.out _).mono ?_
  rintro e W3 ⟨rfl,jD⟩
  have jE:=ah jD
  have jY:=ah (show CB W3 w.heap.size c from Blk.chg HB.out jD ab)
  clear jD
  go_wp2_with (first|refine cw (b:=w.heap.size) (c:=c) rfl _ rfl rfl ?_ ?_;(focus exact jY.out)|refine xk rfl _ rfl HBW.out ?_ ?_;(focus (simp [Act.eval,Act.put];done))|refine aY rfl _ rfl rfl ?_;intro W4 h4 jT EI;have H4:=ah h4;have jR:=ah jT;have Fy:=ah EI;clear h4 jT EI)
  refine bodyPost_ret (v:=.tuple #[.pointer (some ⟨W3.heap.size,0,none⟩),.int .i64 0]) (by simp [results,Tryz.results9]) rfl ?_
  have Ca:=(lD.out.stay jE.out).size
  refine ⟨.inr ⟨by first | rfl | trivial,W3.heap.size,rfl,⟨_,_,_,_,_,_,_,_,WIn.fresh H4.out,fun k hk=>?_,fun k hk=>?_,Nat.le_refl _,Nat.le_refl _⟩,Ca⟩,(lD.out.stay jE.out).stay jR.out⟩
  ·rcases hk with h | h | h | ⟨o,ho,h⟩ | ⟨n,p,hp,h⟩
   ·exact h
   ·exact (bw h).elim
   ·exact (bw h).elim
   ·cases ho
   ·cases hp
  ·rw [hk];exact Blk.lt H4.out
theorem mf {o:Oper} {a:Act} {w:World} {K:Act→World→Prop} {Q:Exit→Act→World→Prop} (ho:o.op = .alloc 40)
  (h:K (a.put o.dst (.pointer (some ⟨w.heap.size,0,none⟩))) (w.alloc (.cells (rsc zRs zV) 40))):o.wp Tryz.prog a w K Q:=by
 unfold Oper.wp execOp
 simp only [ho,Sem.run_bind,ut,Sem.run_pure,Result.andThen_ok]
 exact h
theorem cA {w:World} {m:Nat} {M:Mo} {O:Nat→Prop} {N:Nat} (h:WN w m M O N) (hN:N≤400000) (nS:MoOk M) {x:Cl} {v:Value} (hx:x.Ok) (hv:RB w v x.l) (f:Nat) :
  Calls Tryz.prog 17 #[.pointer (some ⟨m,0,none⟩),.agg (clc x v),.int .u64 f] w fun e w'=>(∃A k c,e = .returned (.agg (rsc (gf M x f) (.slice A k c)))∧RB w' (.slice A k c) (gf M x f).l∧∀i∈own (.slice A k c),w.heap.size≤i)∧Chg [] w w':=by
 have oC:x.l≠[]→∀k∈own v,k < w.heap.size:=fun hl=>RB.own_lt hv hl
 obtain ⟨A0,c0,rfl⟩:=RE.form hv
 obtain ⟨sp,vo,ve,L,E,gb,gm,gs,hI,hO,hl,hLN,hEN⟩:=h
 obtain ⟨W2,jB⟩:∃W2,W2 = (w.alloc (.cells (clc x (.slice A0 x.l.length c0)) 47)).alloc (.cells (rsc zRs zV) 40):=⟨_,rfl⟩
 have jA:Chg [] w W2:=by rw [jB];exact ((Chg.refl [] w).alloc _).alloc _
 have kQ:KB W2 w.heap.size x (.slice A0 x.l.length c0):=by rw [jB];exact (Blk.new w _ _).alloc _
 have qQ:XB W2 (w.heap.size+1) zRs zV:=by
  have:=Blk.new (w.alloc (.cells (clc x (.slice A0 x.l.length c0)) 47)) 40 (rsc zRs zV)
  rw [af] at this
  rw [jB]
  exact this
 obtain ⟨b4,e4⟩:∃b,b = w.heap.size:=⟨_,rfl⟩
 obtain ⟨b6,e6⟩:∃b,b = w.heap.size+1:=⟨_,rfl⟩
 rw [← e6] at qQ
 rw [← e4] at kQ
 have HE:=ah (And.intro e4 e6)
 have HI:=ah (fun W (h:Chg [] W2 W)=>hI.stay (jA.stay h))
 have jW:=ah (fun W (h:Chg [] W2 W)=>KB.stay kQ h)
 have kH:=ah (fun W (h:Chg [] W2 W)=>XB.stay qQ h)
 have jU:=ah jA
 have jP:=ah jB
 have HV:=ah (fun W (h:Chg [] W2 W)=>RE.stay hv (jA.stay h))
 have HX:=ah hx
 have BB:=ah oC
 have rJ:=ah nS
 have oX:=ah (show L.length≤500000∧E.length≤500000 by omega)
 have EVE:=ah (fun e=>br_e e)
 have HZ2:=ah (show b6 < W2.heap.size from Blk.lt qQ)
 clear hI hO hl hv hx kQ qQ jA jB e4 e6 oC nS hLN hEN hN
 obtain ⟨AR,hAR⟩:∃R,R = gf M x f:=⟨_,rfl⟩
 rw [← hAR]
 have HAR:=ah hAR
 clear hAR
 have sQ:=fun W (h:Chg [] W2 W)=>ur (w:=W) M.c HX.out (HV.out W h)
 rw [← dG M.c HX.out] at sQ
 have uD:=ah sQ
 clear sQ
 go_enter Tryz.func17,Tryz.ntmps17
 go_upto_region 1 with (first|refine ax rfl _ rfl rfl ?_;try simp only [af]|refine bn rfl rfl ?_;try simp only [af];try rw [← jP.out])
 try rw [← HE.out.2,← HE.out.1]
 cases hw:ci M.c x with
 | true =>
  obtain rfl:AR = aq 2:=by rw [HAR.out];unfold gf;rw [if_pos hw]
  rw [hw] at uD
  clear hw
  refine rgt [0,0,0,5,5,3] [none,none,none,none,none,none] (fun W=>Chg [] W2 W) ?_
  have hS:Chg [] W2 W2.drew:=(Chg.refl [] W2).drew
  have lm:=Blk.lt (HI.out _ hS).blk
  generalize W2.drew = W0 at hS lm ⊢
  go_upto_region 2 with (first|refine al 26 _ rfl rfl (fun w' J=>WB.load26 (HI.out w' J).blk) hS ?_|refine al 47 _ rfl rfl (fun w' J=>KB.load (jW.out w' J)) hS ?_|refine ao fun K I=>?_;go_simp;refine (uD.out W0 hS).mono ?_;rintro e W3 ⟨rfl,jD⟩;refine I _ _ ?_;clear I K;have jE:=ah (hS.stay jD);clear jD hS lm|refine av fun K I=>?_|refine ai fun K I=>?_;go_simp;refine I _ _ ?_;clear I K|refine ao fun K I=>?_;go_simp|refine aj ?_)
  go_wp2_with (first|refine bx rfl _ rfl (EVE.out 2) ?_ ?_;(focus (simp [Act.eval];done))|refine au (b:=b6) (x:=zRs) (v:=zV) (y:=aq 2) (u:=zV) rfl _ _ rfl rfl rfl rfl (kH.out W3 jE.out) ?_;intro W6 h6 iZ)
  refine bodyPost_ret (v:=.agg (rsc (aq 2) zV)) (results_cell_row (p:=6) (ty:=40) rfl _ _ b6 40 _ (0,0) _ rfl h6 Tryz.underlying40 rfl ct) rfl ?_
  exact ⟨⟨none,0,0,rfl,RE.nil ucl 1 _ none 0,fun _ hk=>(bw hk).elim⟩,(jU.out.stay jE.out).trans iZ (fun y hy=>.inr (by obtain rfl:=aa hy;have:=HE.out;omega))⟩
 | false =>
  have mL:=ah hw
  rw [hw] at uD
  clear hw
  refine rgt [0,0,0,5,5,3] [none,none,none,none,none,none] (fun W=>Chg [] W2 W) ?_
  have hS:Chg [] W2 W2.drew:=(Chg.refl [] W2).drew
  have lm:=Blk.lt (HI.out _ hS).blk
  generalize W2.drew = W0 at hS lm ⊢
  go_upto_region 3 with (first|refine al 26 _ rfl rfl (fun w' J=>WB.load26 (HI.out w' J).blk) hS ?_|refine al 47 _ rfl rfl (fun w' J=>KB.load (jW.out w' J)) hS ?_|refine ao fun K I=>?_;go_simp;refine (uD.out W0 hS).mono ?_;rintro e W3 ⟨rfl,jD⟩;refine I _ _ ?_;clear I K;have jE:=ah (hS.stay jD);clear jD hS lm|refine av fun K I=>?_|refine ai fun K I=>?_;go_simp;refine I _ _ ?_;clear I K|refine ao fun K I=>?_;go_simp|refine aj ?_)
  obtain ⟨RR,kB⟩:∃R,R = doA M x:=⟨_,rfl⟩
  have jC:=ah kB
  clear kB
  go_cut [7] from 15 to 18 (fun z7 W=>∃b7 A5 k5 c5,z7 = .pointer (some ⟨b7,0,none⟩)∧Hid (XB W b7 RR.1 (.slice A5 k5 c5))∧Hid (RB W (.slice A5 k5 c5) RR.1.l)∧Hid (Chg [] W3 W)∧Hid (∀i∈own (.slice A5 k5 c5),W3.heap.size≤i)∧Hid (W3.heap.size≤b7))
  case first =>
   refine kw [0,6,5,6,6,3] [none,none,none,none,none,none] [[0,1,2,3,4,5],[0,4,1,2,3,5],[0,1,2,4,3,5]] (fun W=>Chg [] W3 W) (by kernel_rfl) (by kernel_rfl) (by kernel_rfl) (by kernel_rfl) (fun L9 nQ=>?_)
   have hS:Chg [] W3 W3.drew:=(Chg.refl [] W3).drew
   generalize W3.drew = W4 at hS ⊢
   simp only [List.mem_cons,List.mem_nil_iff,or_false] at nQ
   rcases nQ with rfl | rfl | rfl
   ·simp only [dt,List.filterMap_cons,List.filterMap_nil,List.getElem?_cons_succ,List.getElem?_cons_zero]
    go_wp2_with (first|refine al 47 _ rfl rfl (fun w' J=>KB.load (jW.out w' (jE.out.stay J))) hS ?_|refine av fun K I=>?_|refine ai fun K I=>?_;go_simp;refine I _ _ ?_;clear I K|refine ao fun K I=>?_;go_simp|refine aj ?_)
    (refine aw hS fun K I=>?_)
    go_simp
    refine (rk (HI.out _ (jE.out.stay hS)) rJ.out oX.out.1 oX.out.2).mono ?_
    rintro e W5 ⟨⟨b9,sp7,vo7,ve7,L7,g7,m7,rfl,hI7,hl7,hF7⟩,U⟩
    have GM:=hS.size
    replace hS:Chg [] W3 W5:=hS.stay U
    refine I _ _ hS ?_
    clear I K
    go_wp2_with (first|refine al 47 _ rfl rfl (fun w' J=>KB.load (jW.out w' (jE.out.stay J))) hS ?_|refine av fun K I=>?_|refine ai fun K I=>?_;go_simp;refine I _ _ ?_;clear I K|refine ao fun K I=>?_;go_simp|refine aj ?_)
    (refine aw hS fun K I=>?_)
    go_simp
    refine (aA hI7 (fun k hk=>(hF7 k hk).2) HX.out rJ.out (by have h1:=oX.out.1;omega) mL.out (.slice A0 x.l.length c0) rfl (HV.out _ (jE.out.stay hS)) (fun jO k hk hf=>by have h1:=BB.out jO k hk;have h2:=(hF7 k hf).1;have h3:=(jU.out.stay jE.out).size;omega)).mono ?_
    rintro e W6 ⟨A5,k5,c5,rfl,pO,oS,kO,-,-,-,-,-,-,-,-,-⟩
    have iZ:Chg [] W3 W6:=by
     obtain ⟨G,CN,CO⟩:=kO
     refine hS.trans CN (fun y hy=>.inr ?_)
     rcases CO y hy with h | h
     ·have:=(hF7 y h).1;omega
     ·exact ag hS.size h
    rw [← jC.out] at pO
    rw [← jC.out]
    have yV:∀i∈own (.slice A5 k5 c5),W3.heap.size≤i:=fun i hi=>ag hS.size (oS i hi)
    refine I _ _ iZ ?_
    clear I K
    replace hS:=iZ
    (refine aw hS fun K I=>?_)
    refine mf rfl ?_
    refine I _ _ (hS.alloc _) ?_
    clear I K
    have pV:XB (W6.alloc (.cells (rsc zRs zV) 40)) W6.heap.size zRs zV:=Blk.new _ _ _
    have oR:Chg [] W6 (W6.alloc (.cells (rsc zRs zV) 40)):=(Chg.refl [] _).alloc _
    have qS:W3.heap.size≤W6.heap.size:=hS.size
    replace hS:Chg [] W3 (W6.alloc (.cells (rsc zRs zV) 40)):=hS.alloc _
    obtain ⟨ba,nL⟩:∃y,y = W6.heap.size:=⟨_,rfl⟩
    have qE:W6.heap.size≤ba:=Nat.le_of_eq nL.symm
    have Aq:ba≤W6.heap.size:=Nat.le_of_eq nL
    rw [← nL] at pV qS ⊢
    generalize W6.alloc (.cells (rsc zRs zV) 40) = Wa at pV oR hS ⊢
    clear nL
    have zT:=pV
    go_wp2_with (first|refine ao fun K I=>?_;refine iy (b:=ba) (x:=zRs) (v:=zV) (y:=RR.1) (u:=.slice A5 k5 c5) _ _ rfl rfl rfl rfl zT ?_;intro W9 h9 kE;have H9:=ah h9;have mB:=ah kE;clear h9 kE;refine I _ _ ?_;clear I K|refine av fun K I=>?_|refine ai fun K I=>?_;go_simp;refine I _ _ ?_;clear I K|refine ao fun K I=>?_;go_simp|refine aj ?_)
    go_meet
    case rel=>exact ⟨ba,A5,k5,c5,rfl,H9,ah (RE.stay pO (oR.trans mB.out (fun y hy=>.inr (by obtain rfl:=aa hy;exact qE)))),ah (hS.trans mB.out (fun y hy=>.inr (by obtain rfl:=aa hy;exact qS))),ah yV,ah qS⟩
   ·simp only [dt,List.filterMap_cons,List.filterMap_nil,List.getElem?_cons_succ,List.getElem?_cons_zero]
    go_wp2_with (first|refine al 47 _ rfl rfl (fun w' J=>KB.load (jW.out w' (jE.out.stay J))) hS ?_|refine av fun K I=>?_|refine ai fun K I=>?_;go_simp;refine I _ _ ?_;clear I K|refine ao fun K I=>?_;go_simp|refine aj ?_)
    (refine aw hS fun K I=>?_)
    refine mf rfl ?_
    refine I _ _ (hS.alloc _) ?_
    clear I K
    have pV:XB (W4.alloc (.cells (rsc zRs zV) 40)) W4.heap.size zRs zV:=Blk.new _ _ _
    have oR:Chg [] W4 (W4.alloc (.cells (rsc zRs zV) 40)):=(Chg.refl [] _).alloc _
    have qS:W3.heap.size≤W4.heap.size:=hS.size
    replace hS:Chg [] W3 (W4.alloc (.cells (rsc zRs zV) 40)):=hS.alloc _
    obtain ⟨ba,nL⟩:∃y,y = W4.heap.size:=⟨_,rfl⟩
    have qE:W4.heap.size≤ba:=Nat.le_of_eq nL.symm
    have Aq:ba≤W4.heap.size:=Nat.le_of_eq nL
    rw [← nL] at pV qS ⊢
    generalize W4.alloc (.cells (rsc zRs zV) 40) = Wa at pV oR hS ⊢
    clear nL
    go_wp2_with (first|refine al 47 _ rfl rfl (fun w' J=>KB.load (jW.out w' (jE.out.stay J))) hS ?_|refine av fun K I=>?_|refine ai fun K I=>?_;go_simp;refine I _ _ ?_;clear I K|refine ao fun K I=>?_;go_simp|refine aj ?_)
    (refine aw hS fun K I=>?_)
    go_simp
    refine (rk (HI.out _ (jE.out.stay hS)) rJ.out oX.out.1 oX.out.2).mono ?_
    rintro e W5 ⟨⟨b9,sp7,vo7,ve7,L7,g7,m7,rfl,hI7,hl7,hF7⟩,U⟩
    have FM:ba < Wa.heap.size:=Blk.lt pV
    have FN:XB W5 ba zRs zV:=XB.stay pV U
    have hbaY:ba < W5.heap.size:=Blk.lt FN
    have GM:=hS.size
    replace hS:Chg [] W3 W5:=hS.stay U
    refine I _ _ hS ?_
    clear I K
    go_wp2_with (first|refine al 47 _ rfl rfl (fun w' J=>KB.load (jW.out w' (jE.out.stay J))) hS ?_|refine av fun K I=>?_|refine ai fun K I=>?_;go_simp;refine I _ _ ?_;clear I K|refine ao fun K I=>?_;go_simp|refine aj ?_)
    (refine aw hS fun K I=>?_)
    go_simp
    refine (aA hI7 (fun k hk=>(hF7 k hk).2) HX.out rJ.out (by have h1:=oX.out.1;omega) mL.out (.slice A0 x.l.length c0) rfl (HV.out _ (jE.out.stay hS)) (fun jO k hk hf=>by have h1:=BB.out jO k hk;have h2:=(hF7 k hf).1;have h3:=(jU.out.stay jE.out).size;omega)).mono ?_
    rintro e W6 ⟨A5,k5,c5,rfl,pO,oS,kO,-,-,-,-,-,-,-,-,-⟩
    have iZ:Chg [] W3 W6:=by
     obtain ⟨G,CN,CO⟩:=kO
     refine hS.trans CN (fun y hy=>.inr ?_)
     rcases CO y hy with h | h
     ·have:=(hF7 y h).1;omega
     ·exact ag hS.size h
    rw [← jC.out] at pO
    rw [← jC.out]
    have yV:∀i∈own (.slice A5 k5 c5),W3.heap.size≤i:=fun i hi=>ag hS.size (oS i hi)
    refine I _ _ iZ ?_
    clear I K
    replace hS:=iZ
    have zT:XB W6 ba zRs zV:=Blk.cp FN kO (fun hk=>by have:=(hF7 ba hk).1;omega)
    go_wp2_with (first|refine ao fun K I=>?_;refine iy (b:=ba) (x:=zRs) (v:=zV) (y:=RR.1) (u:=.slice A5 k5 c5) _ _ rfl rfl rfl rfl zT ?_;intro W9 h9 kE;have H9:=ah h9;have mB:=ah kE;clear h9 kE;refine I _ _ ?_;clear I K|refine av fun K I=>?_|refine ai fun K I=>?_;go_simp;refine I _ _ ?_;clear I K|refine ao fun K I=>?_;go_simp|refine aj ?_)
    go_meet
    case rel=>exact ⟨ba,A5,k5,c5,rfl,H9,ah (RE.chg pO mB.out (fun y hy Bt=>by obtain rfl:=aa Bt;have:=oS _ (by first | exact hy | exact gv.2 hy);omega)),ah (hS.trans mB.out (fun y hy=>.inr (by obtain rfl:=aa hy;exact qS))),ah yV,ah qS⟩
   ·simp only [dt,List.filterMap_cons,List.filterMap_nil,List.getElem?_cons_succ,List.getElem?_cons_zero]
    go_wp2_with (first|refine al 47 _ rfl rfl (fun w' J=>KB.load (jW.out w' (jE.out.stay J))) hS ?_|refine av fun K I=>?_|refine ai fun K I=>?_;go_simp;refine I _ _ ?_;clear I K|refine ao fun K I=>?_;go_simp|refine aj ?_)
    (refine aw hS fun K I=>?_)
    go_simp
    refine (rk (HI.out _ (jE.out.stay hS)) rJ.out oX.out.1 oX.out.2).mono ?_
    rintro e W5 ⟨⟨b9,sp7,vo7,ve7,L7,g7,m7,rfl,hI7,hl7,hF7⟩,U⟩
    have GM:=hS.size
    replace hS:Chg [] W3 W5:=hS.stay U
    refine I _ _ hS ?_
    clear I K
    go_wp2_with (first|refine al 47 _ rfl rfl (fun w' J=>KB.load (jW.out w' (jE.out.stay J))) hS ?_|refine av fun K I=>?_|refine ai fun K I=>?_;go_simp;refine I _ _ ?_;clear I K|refine ao fun K I=>?_;go_simp|refine aj ?_)
    (refine aw hS fun K I=>?_)
    refine mf rfl ?_
    refine I _ _ (hS.alloc _) ?_
    clear I K
    have pV:XB (W5.alloc (.cells (rsc zRs zV) 40)) W5.heap.size zRs zV:=Blk.new _ _ _
    have oR:Chg [] W5 (W5.alloc (.cells (rsc zRs zV) 40)):=(Chg.refl [] _).alloc _
    have qS:W3.heap.size≤W5.heap.size:=hS.size
    replace hS:Chg [] W3 (W5.alloc (.cells (rsc zRs zV) 40)):=hS.alloc _
    obtain ⟨ba,nL⟩:∃y,y = W5.heap.size:=⟨_,rfl⟩
    have qE:W5.heap.size≤ba:=Nat.le_of_eq nL.symm
    have Aq:ba≤W5.heap.size:=Nat.le_of_eq nL
    rw [← nL] at pV qS ⊢
    generalize W5.alloc (.cells (rsc zRs zV) 40) = Wa at pV oR hS ⊢
    clear nL
    go_wp2_with (first|refine al 47 _ rfl rfl (fun w' J=>KB.load (jW.out w' (jE.out.stay J))) hS ?_|refine av fun K I=>?_|refine ai fun K I=>?_;go_simp;refine I _ _ ?_;clear I K|refine ao fun K I=>?_;go_simp|refine aj ?_)
    (refine aw hS fun K I=>?_)
    go_simp
    refine (aA (hI7.stay oR) (fun k hk=>Nat.lt_of_lt_of_le (hF7 k hk).2 oR.size) HX.out rJ.out (by have h1:=oX.out.1;omega) mL.out (.slice A0 x.l.length c0) rfl (HV.out _ (jE.out.stay hS)) (fun jO k hk hf=>by have h1:=BB.out jO k hk;have h2:=(hF7 k hf).1;have h3:=(jU.out.stay jE.out).size;omega)).mono ?_
    rintro e W6 ⟨A5,k5,c5,rfl,pO,oS,kO,-,-,-,-,-,-,-,-,-⟩
    have iZ:Chg [] W3 W6:=by
     obtain ⟨G,CN,CO⟩:=kO
     refine hS.trans CN (fun y hy=>.inr ?_)
     rcases CO y hy with h | h
     ·have:=(hF7 y h).1;omega
     ·exact ag hS.size h
    rw [← jC.out] at pO
    rw [← jC.out]
    have yV:∀i∈own (.slice A5 k5 c5),W3.heap.size≤i:=fun i hi=>ag hS.size (oS i hi)
    refine I _ _ iZ ?_
    clear I K
    replace hS:=iZ
    have zT:XB W6 ba zRs zV:=Blk.cp pV kO (fun hk=>by have:=(hF7 ba hk).2;omega)
    have FM:ba < Wa.heap.size:=Blk.lt pV
    go_wp2_with (first|refine ao fun K I=>?_;refine iy (b:=ba) (x:=zRs) (v:=zV) (y:=RR.1) (u:=.slice A5 k5 c5) _ _ rfl rfl rfl rfl zT ?_;intro W9 h9 kE;have H9:=ah h9;have mB:=ah kE;clear h9 kE;refine I _ _ ?_;clear I K|refine av fun K I=>?_|refine ai fun K I=>?_;go_simp;refine I _ _ ?_;clear I K|refine ao fun K I=>?_;go_simp|refine aj ?_)
    go_meet
    case rel=>exact ⟨ba,A5,k5,c5,rfl,H9,ah (RE.chg pO mB.out (fun y hy Bt=>by obtain rfl:=aa Bt;have:=oS _ (by first | exact hy | exact gv.2 hy);omega)),ah (hS.trans mB.out (fun y hy=>.inr (by obtain rfl:=aa hy;exact qS))),ah yV,ah qS⟩
  obtain ⟨b7,A5,k5,c5,rfl,hx7,hr7,jI,ho7,BL⟩:=hcut
  have HX7:=ah hx7.out
  have Eg:=ah hr7.out
  have qX:=ah (jE.out.stay jI.out)
  have HO7:=ah ho7.out
  have zZ:=ah BL.out
  clear hx7 hr7 jI ho7 BL
  obtain ⟨r0,-,-,-,-,-,-,-,-,-,-,-,l4,-⟩:=KB.cells (jW.out wc qX.out)
  obtain ⟨-,q1,-,q7,qf⟩:=XB.cells HX7.out
  have qf1:=qf 1
  clear qf
  by_cases kK:x.k = 10
  ·obtain rfl:RR = (aq 0,none):=by rw [jC.out];unfold doA;rw [if_pos kK]
   obtain rfl:AR = ⟨0,f,[]⟩:=by rw [HAR.out];unfold gf;rw [if_neg (by rw [mL.out];decide),if_pos kK]
   rw [kK] at r0
   have q1':wc.cell? ⟨b7,1,none⟩ = some (.int .u64 0):=q1
   clear q1 kK
   go_upto_region 6 with (fail)
   have zS:XB (wc.setCell ⟨b7,1,none⟩ (.int .u64 f)) b7 ⟨0,f,[]⟩ (.slice A5 k5 c5):=XB.set_v HX7.out f
   have mP:Chg [b7] wc (wc.setCell ⟨b7,1,none⟩ (.int .u64 f)):=(Chg.refl [b7] wc).setCell (p:=⟨b7,1,none⟩) (.inl (by simp)) _
   clear r0 q1' q7 qf1 l4
   generalize wc.setCell ⟨b7,1,none⟩ (.int .u64 f) = W8 at zS mP ⊢
   have yF:=ah zS
   have lL:=ah (show Chg [] W2 W8 from qX.out.trans mP (fun y hy=>.inr (by obtain rfl:=aa hy;exact ag jE.out.size zZ.out)))
   clear zS mP
   go_wp2_with (first|refine dc (b:=b7) (x:=⟨0,f,[]⟩) (v:=.slice A5 k5 c5) rfl _ rfl rfl yF.out ?_|refine au (b:=b6) (x:=zRs) (v:=zV) (y:=⟨0,f,[]⟩) (u:=.slice A5 k5 c5) rfl _ _ rfl rfl rfl rfl (kH.out W8 lL.out) ?_;intro W6 h6 iZ)
   refine bodyPost_ret (v:=.agg (rsc ⟨0,f,[]⟩ (.slice A5 k5 c5))) (results_cell_row (p:=6) (ty:=40) rfl _ _ b6 40 _ (0,0) _ rfl h6 Tryz.underlying40 rfl ct) rfl ?_
   refine ⟨⟨A5,k5,c5,rfl,?_,fun i hi=>ag (jU.out.stay jE.out).size (HO7.out i (by first | exact hi | exact gv.2 hi))⟩,(jU.out.stay lL.out).trans iZ (fun y hy=>.inr (by obtain rfl:=aa hy;have:=HE.out;omega))⟩
   obtain ⟨h1,A',c',e',Ak,oG⟩:=Eg.out
   exact ⟨h1,A',c',e',Ak,fun h=>absurd h (by simp)⟩
  ·have d0:((x.k:Int) == 10) = false:=beq_false_of_ne (by omega)
   obtain rfl:AR = RR.1:=by rw [HAR.out,jC.out];unfold gf doA;rw [if_neg (by rw [mL.out];decide),if_neg kK,if_neg kK]
   obtain ⟨zk,Bu⟩:∃z:Int,z = (x.k:Int):=⟨_,rfl⟩
   rw [← Bu] at r0 d0
   clear kK Bu q1 qf1 q7
   go_upto_region 6 with (fail)
   clear r0 d0 l4
   go_wp2_with (first|refine dc (b:=b7) (x:=RR.1) (v:=.slice A5 k5 c5) rfl _ rfl rfl HX7.out ?_|refine au (b:=b6) (x:=zRs) (v:=zV) (y:=RR.1) (u:=.slice A5 k5 c5) rfl _ _ rfl rfl rfl rfl (kH.out wc qX.out) ?_;intro W6 h6 iZ)
   refine bodyPost_ret (v:=.agg (rsc RR.1 (.slice A5 k5 c5))) (results_cell_row (p:=6) (ty:=40) rfl _ _ b6 40 _ (0,0) _ rfl h6 Tryz.underlying40 rfl ct) rfl ?_
   have h36:=jE.out.size
   have h62:=HZ2.out
   exact ⟨⟨A5,k5,c5,rfl,RE.chg Eg.out iZ (fun y hy Bt=>by obtain rfl:=aa Bt;have:=HO7.out _ hy;omega),fun i hi=>ag (jU.out.stay jE.out).size (HO7.out i (by first | exact hi | exact gv.2 hi))⟩,(jU.out.stay qX.out).trans iZ (fun y hy=>.inr (by obtain rfl:=aa hy;have:=HE.out;omega))⟩
theorem aR (m:List Ar.Rn):0≤Ar.setE m∧Ar.setE m≤200:=by unfold Ar.setE;split <;> decide
theorem mdE_le (l:List Ar.Rn) (p c:Int):0≤Ar.mdE l p c∧Ar.mdE l p c≤200:=by
 unfold Ar.mdE
 split
 ·decide
 ·split <;> decide
theorem gV (p:Pr) (x:Cl):0≤(ch p x).1∧(ch p x).1≤200:=by
 unfold ch
 split
 ·show 0≤Ar.mapE _ _ _ _∧Ar.mapE _ _ _ _≤200
  unfold Ar.mapE
  split
  ·decide
  ·split
   ·decide
   ·exact aR _
 split
 ·show 0≤Ar.unE _ _ _∧Ar.unE _ _ _≤200
  unfold Ar.unE
  split
  ·decide
  ·exact aR _
 ·show 0≤Ar.prE _ _ _ _∧Ar.prE _ _ _ _≤200
  unfold Ar.prE
  split
  ·decide
  ·split
   ·exact mdE_le _ _ _
   ·exact aR _
theorem proc_le {M:Mo} (h:MoOk M) (x:Cl) {p:Pr} (hp:M.pr x.p = some p):(0≤(cd M x 0 p).1.e∧(cd M x 0 p).1.e≤200)∧(cd M x 0 p).1.v < 18446744073709551616:=by
 obtain ⟨-,-,-,-,Eu,uV,how⟩:=h.pr x.p p hp
 have h0:(0:Int)≤0∧(0:Int)≤200:=by decide
 have h7:(0:Int)≤7∧(7:Int)≤200:=by decide
 have hv:(0:Nat) < 18446744073709551616:=by decide
 unfold cd
 split
 ·exact ⟨h0,hv⟩
 split
 ·exact ⟨h0,hv⟩
 split
 ·refine ⟨h0,?_⟩
  show (ky p x.g).1 * 256+(ky p x.g).2 < _
  have:(ky p x.g).1 < 256∧(ky p x.g).2 < 256:=by
   unfold ky
   cases hq:p.ow x.g with
   | none=>exact ⟨Eu,uV⟩
   | some u=>exact how _ _ hq
  omega
 split
 ·exact ⟨gV p x,hv⟩
 split
 ·have he:=acc_e p x
  refine ⟨?_,?_⟩
  ·show 0≤(cx p x).1.e∧(cx p x).1.e≤200
   omega
  ·show (cx p x).1.v < _
   have:(cx p x).1.v = 0:=by
    unfold cx
    simp only
    repeat' split
    all_goals rfl
   omega
 split
 ·exact ⟨h7,hv⟩
 split
 ·refine ⟨h0,?_⟩
  show min 0 _ < _
  rw [Nat.zero_min]
  exact hv
 split
 ·exact ⟨h0,hv⟩
 ·exact ⟨h0,hv⟩
theorem ans_le {M:Mo} (h:MoOk M) (x:Cl) (kK:x.k≠10):(0≤(bj M x 0).1.e∧(bj M x 0).1.e≤200)∧(bj M x 0).1.v < 18446744073709551616:=by
 have h0:(0:Int)≤0∧(0:Int)≤200:=by decide
 have h7:(0:Int)≤7∧(7:Int)≤200:=by decide
 have hv:(0:Nat) < 18446744073709551616:=by decide
 unfold bj
 split
 ·unfold iq
  split
  ·rename_i z hz
   refine ⟨h0,?_⟩
   show z.toNat < _
   have:=List.mem_of_find?_eq_some hz
   unfold pids at this
   simp at this
   omega
  ·exact ⟨by decide,hv⟩
 split
 ·unfold fh
  split
  ·exact ⟨by decide,hv⟩
  ·split
   ·exact ⟨h0,hv⟩
   split
   ·exact ⟨by decide,hv⟩
   split
   ·exact ⟨h0,hv⟩
   ·exact ⟨h0,hv⟩
 split
 ·exact ⟨h0,hv⟩
 split
 ·exact ⟨h7,hv⟩
 ·rename_i p hp
  exact proc_le h x hp
theorem rf {M:Mo} (h:MoOk M) (x:Cl) {f:Nat} (hf:f < 18446744073709551616):(gf M x f).Ok:=by
 refine ⟨?_,?_,ansR_ok h x f⟩
 ·unfold gf
  split
  ·exact ⟨by decide,by decide⟩
  split
  ·exact (show (-9223372036854775808:Int)≤0∧(0:Int)≤9223372036854775807 by decide)
  ·rename_i kK
   have:=(ans_le h x kK).1
   omega
 ·unfold gf
  split
  ·exact (by decide:(0:Nat) < 18446744073709551616)
  split
  ·exact hf
  ·rename_i kK
   exact (ans_le h x kK).2
theorem wa {M:Mo} {x:Cl} {f:Nat} (h:ci M.c x = false→x.k = 10→f≠0∧M.ev f = false):fv M x (gf M x f) = true:=by
 by_cases h1:ci M.c x = false∧x.k = 10
 ·obtain ⟨h2,h3⟩:=h h1.1 h1.2
  exact ans_may h2 h3
 ·unfold fv gf
  by_cases hw:ci M.c x = true
  ·rw [if_pos hw,if_pos hw,gw]
  ·have kK:x.k≠10:=fun e=>h1 ⟨by simpa using hw,e⟩
   rw [if_neg hw,if_neg hw,if_neg kK,if_neg (by rw [bG kK];decide),gw]
   by_cases rK:x.k = 17
   ·rw [ans_17 rK]
   ·exact congrArg Prod.fst (ans_v kK rK _).symm
structure MW (W0 w:World) (m d:Nat) (M D:Mo) (N:Nat) (O P:Nat→Prop):Prop where
 mm:MMem w m M O
 wn:WN w d D P N
 go:∀k,O k→W0.heap.size≤k
 gp:∀k,P k→W0.heap.size≤k
 dj:∀k,O k→¬ P k
 ok:MoOk D
 ev:EvOk D
 chg:Chg [] W0 w
section
variable {W0 w w':World} {m d:Nat} {M D:Mo} {N:Nat} {O P:Nat→Prop}
theorem MW.stay (h:MW W0 w m d M D N O P) (hc:Chg [] w w'):MW W0 w' m d M D N O P:=⟨h.mm.stay hc,h.wn.stay hc,h.go,h.gp,h.dj,h.ok,h.ev,h.chg.stay hc⟩
theorem MW.step (h:MW W0 w m d M D N O P) (hf:FW W0) {x:Cl} {v:Value} {r:Rs} {u:Value} (hx:x.Ok) (hv:RB w v x.l) (hr:r.Ok) (hu:RB w u r.l) :
  Calls Tryz.prog 11 #[.pointer (some ⟨m,0,none⟩),.agg (clc x v),.agg (rsc r u)] w fun e w'=>e = .returned (.bool (fv M x r))∧CP O w w'∧∃O',MW W0 w' m d (ic M x r) D N O' P:=by
 refine (vx h.mm (hf.stay h.chg) hx hv hr hu).mono ?_
 rintro e w' ⟨rfl,kO,O',k2,k3⟩
 have lY:=h.chg.size
 obtain ⟨F,g1,g2⟩:=id kO
 exact ⟨rfl,kO,O',k2,h.wn.cp kO (fun k hp ho=>h.dj k ho hp),fun k hk=>(k3 k hk).elim (h.go k) (fun h=>by omega),h.gp,fun k ho hp=>(k3 k ho).elim (fun h'=>h.dj k h' hp) (fun h'=>by have:=h.wn.lt k hp;omega),h.ok,h.ev,h.chg.trans g1 (fun k hk=>.inr ((g2 k hk).elim (h.go k) (fun h=>by omega)))⟩
theorem MW.rstep (h:MW W0 w m d M D N O P) (hN:N≤400000) {x:Cl} {v:Value} {r:Rs} {u:Value} (hx:x.Ok) (hv:RB w v x.l) (hr:r.Ok) (hu:RB w u r.l) (hM:ic D x r = M) :
  Calls Tryz.prog 12 #[.pointer (some ⟨d,0,none⟩),.agg (clc x v),.agg (rsc r u)] w fun e w'=>e = .returned (.bool (fv D x r))∧∃P',MW W0 w' m d M M (N+1) O P':=by
 refine (iQ h.wn hN h.ok h.ev hx hv hr hu).mono ?_
 rintro e w' ⟨rfl,kO,P',k2,k3⟩
 rw [hM] at k2
 have lY:=h.chg.size
 obtain ⟨F,g1,g2⟩:=id kO
 exact ⟨rfl,P',h.mm.cp kO (fun k ho hp=>h.dj k ho hp),k2,h.go,fun k hk=>(k3 k hk).elim (h.gp k) (fun h=>by omega),fun k ho hp=>(k3 k hp).elim (fun h'=>h.dj k ho h') (fun h'=>by have:=h.mm.lt k ho;omega),h.mm.ok,by rw [← hM];exact h.ev.step x r,h.chg.trans g1 (fun k hk=>.inr ((g2 k hk).elim (h.gp k) (fun h=>by omega)))⟩
theorem MW.answer (h:MW W0 w m d M D N O P) (hN:N≤400000) {x:Cl} {v:Value} (hx:x.Ok) (hv:RB w v x.l) (f:Nat) :
  Calls Tryz.prog 17 #[.pointer (some ⟨d,0,none⟩),.agg (clc x v),.int .u64 f] w fun e w'=>(∃A k c,e = .returned (.agg (rsc (gf D x f) (.slice A k c)))∧RB w' (.slice A k c) (gf D x f).l∧∀i∈own (.slice A k c),w.heap.size≤i)∧Chg [] w w':=cA h.wn hN h.ok hx hv f
theorem MW.fresh (h:MW W0 w m d M D N O P):Calls Tryz.prog 18 #[.pointer (some ⟨d,0,none⟩)] w fun e w'=>(∃f:Nat,e = .returned (.int .u64 f)∧f≠0∧f < 18446744073709551616∧D.ev f = false)∧w = w':=by
 obtain ⟨sp,vo,ve,L,E,gb,gm,gs,hI,-⟩:=h.wn
 exact hY hI
theorem MW.put (h:MW W0 w m d M D N O P) {F:List Nat} (hc:Chg F w w') (hF:∀k∈F,¬ O k∧¬ P k∧W0.heap.size≤k):MW W0 w' m d M D N O P :=
 ⟨h.mm.cp (CP.of (F:=fun k=>k∈F) hc (fun k hk=>.inl hk)) (fun k ho hk=>(hF k hk).1 ho),h.wn.cp (CP.of (F:=fun k=>k∈F) hc (fun k hk=>.inl hk)) (fun k hp hk=>(hF k hk).2.1 hp),h.go,h.gp,h.dj,h.ok,h.ev,h.chg.trans hc (fun k hk=>.inr (hF k hk).2.2)⟩
structure M3 (W0 w:World) (m d n:Nat) (M D C:Mo) (N:Nat) (O P:Nat→Prop):Prop where
 mw:MW W0 w m d M D N O P
 cm:∃Q,MMem w n C Q∧∀k,Q k→¬ O k
theorem M3.stay {n:Nat} {C:Mo} (h:M3 W0 w m d n M D C N O P) (hc:Chg [] w w'):M3 W0 w' m d n M D C N O P:=by
 obtain ⟨h1,Q,h2,h3⟩:=h
 exact ⟨h1.stay hc,Q,h2.stay hc,h3⟩
theorem MW.copy (h:MW W0 w m d M D N O P):Calls Tryz.prog 15 #[.pointer (some ⟨m,0,none⟩)] w fun e w'=>∃n,e = .returned (.pointer (some ⟨n,0,none⟩))∧M3 W0 w' m d n M D M N O P:=by
 refine (Copy_any h.mm).mono ?_
 rintro e w' ⟨⟨n,Q,rfl,k1,k2⟩,hc⟩
 exact ⟨n,rfl,h.stay hc,Q,k1,fun k hq ho=>by have:=k2 k hq;have:=h.mm.lt k ho;omega⟩
theorem M3.step {n:Nat} {C:Mo} (h:M3 W0 w m d n M D C N O P) (hf:FW W0) {x:Cl} {v:Value} {r:Rs} {u:Value} (hx:x.Ok) (hv:RB w v x.l) (hr:r.Ok) (hu:RB w u r.l) :
  Calls Tryz.prog 11 #[.pointer (some ⟨m,0,none⟩),.agg (clc x v),.agg (rsc r u)] w fun e w'=>e = .returned (.bool (fv M x r))∧∃O',M3 W0 w' m d n (ic M x r) D C N O' P:=by
 refine (vx h.mw.mm (hf.stay h.mw.chg) hx hv hr hu).mono ?_
 rintro e w' ⟨rfl,kO,O',k2,k3⟩
 have lY:=h.mw.chg.size
 obtain ⟨h1,Q,h2,h3⟩:=h
 obtain ⟨F,g1,g2⟩:=id kO
 exact ⟨rfl,O',⟨k2,h1.wn.cp kO (fun k hp ho=>h1.dj k ho hp),fun k hk=>(k3 k hk).elim (h1.go k) (fun h=>by omega),h1.gp,fun k ho hp=>(k3 k ho).elim (fun h'=>h1.dj k h' hp) (fun h'=>by have:=h1.wn.lt k hp;omega),h1.ok,h1.ev,h1.chg.trans g1 (fun k hk=>.inr ((g2 k hk).elim (h1.go k) (fun h=>by omega)))⟩,Q,h2.cp kO (fun k hq ho=>h3 k hq ho),fun k hq ho=>(k3 k ho).elim (fun h'=>h3 k hq h') (fun h'=>by have:=h2.lt k hq;omega)⟩
theorem aQ {n:Nat} {Q:Nat→Prop} (h1:MMem w m M O) (h2:MMem w n M Q):Calls Tryz.prog 16 #[.pointer (some ⟨m,0,none⟩),.pointer (some ⟨n,0,none⟩)] w fun e w'=>e = .returned (.bool true)∧Chg [] w w':=by
 obtain ⟨_,_,_,_,_,_,_,_,_,i1,_,_⟩:=h1
 obtain ⟨_,_,_,_,_,_,_,_,_,i2,_,_⟩:=h2
 exact Same_any i1 i2
theorem M3.same {n:Nat} (h:M3 W0 w m d n M D M N O P):Calls Tryz.prog 16 #[.pointer (some ⟨m,0,none⟩),.pointer (some ⟨n,0,none⟩)] w fun e w'=>e = .returned (.bool true)∧Chg [] w w':=by
 obtain ⟨h1,Q,h2,h3⟩:=h
 exact aQ h1.mm h2
theorem M3.same2 {n:Nat} (h:M3 W0 w m d n M D M N O P):Calls Tryz.prog 16 #[.pointer (some ⟨n,0,none⟩),.pointer (some ⟨m,0,none⟩)] w fun e w'=>e = .returned (.bool true)∧Chg [] w w':=by
 obtain ⟨h1,Q,h2,h3⟩:=h
 exact aQ h2 h1.mm
theorem MW.self (h:MW W0 w m d M D N O P):Calls Tryz.prog 16 #[.pointer (some ⟨m,0,none⟩),.pointer (some ⟨m,0,none⟩)] w fun e w'=>e = .returned (.bool true)∧Chg [] w w':=aQ h.mm h.mm
end
theorem MW.made {W0 w w1 w2:World} {m d:Nat} {c:Cf} {O:Nat→Prop} (nH:Chg [] W0 w) (h1:MMem w1 m (nk c) O) (h2:∀k,O k→w.heap.size≤k) (jH:Chg [] w w1) (h3:WN w2 d (nk c) (fun k=>k = d) 0) (h4:w1.heap.size≤d) (jA:Chg [] w1 w2):MW W0 w2 m d (nk c) (nk c) 0 O (fun k=>k = d):=by
 have hs:=nH.size
 have pC:=jH.size
 exact ⟨h1.stay jA,h3,fun k hk=>by have:=h2 k hk;omega,fun k hk=>by omega,fun k ho hk=>by have:=h1.lt k ho;omega,h1.ok,EvOk.new c,(nH.stay jH).stay jA⟩
theorem tw_ldH {w:World} {g off n c:Nat} {l:List Tw} (h:RE twl 17 w (.slice (some ⟨g,off,none⟩) n c) l) {k:Nat} (hk:k < l.length):(loadVar 37 ⟨g,off+k * 17+16,none⟩).run Tryz.prog w = .ok (.int .u64 l[k].h) w :=
 cr Tryz.underlying37 (ro h hk (j:=16) (u:=.int .u64 l[k].h) (by omega) rfl)
end Go.Proofs.YtfoleblcaloeoaaGreatDoor
