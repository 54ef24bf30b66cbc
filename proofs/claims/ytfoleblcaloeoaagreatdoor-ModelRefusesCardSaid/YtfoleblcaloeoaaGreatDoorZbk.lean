/- Texts merged for the claim. -/
import Derived.Test.YtfoleblcaloeoaaGreatDoorZbj
set_option maxHeartbeats 40000000
set_option maxRecDepth 20000
namespace Go.Proofs.YtfoleblcaloeoaaGreatDoor
open Go Go.RowKit
theorem stF_c (x y:Cl) {f:Nat} (h:f≠99):(jv x y f).c = y.c:=by
 unfold jv
 repeat' split
 all_goals first | rfl | omega
theorem fold_c (x:Cl):∀(F:List Nat) (y:Cl),(∀f∈F,f≠99)→(F.foldl (jv x) y).c = y.c
 | [],_,_=>rfl
 | f :: F,y,h=>by
  rw [List.foldl_cons,fold_c x F _ (fun g hg=>h g (List.mem_cons_of_mem _ hg)),stF_c x y (h f (List.mem_cons_self ..))]
theorem may_c {x:Cl} (h:lc x = true) (hb:hasB x 99 = false):x.c = 0:=by
 have h1:=wi h
 unfold cz at h1
 simp only [Bool.and_eq_true,beq_iff_eq] at h1
 rw [h1.1.1.1.1.1.1.1.2]
 unfold jj ge
 rw [fold_c x _ _ (fun f hf e=>by
  unfold hasB at hb
  have:(fld x.k).contains 99 = true:=by rw [List.contains_iff_mem];exact e ▸ hf
  rw [hb] at this;cases this)]
 rfl
theorem wj {p:Pr} {s:Sq} (hR:RelP p s) (hs:Ar.Sp p.rl) {g c:Nat} (hc:1≤c) (hg:g+c≤1024) (h:∀q:Nat,g≤q→q < g+c→s.rt q≠0):Ar.mdE p.rl g c = 0:=by
 unfold Ar.mdE
 rw [if_neg (by rw [Ar.mayB_iff.2 ⟨by omega,by omega,by omega,by omega⟩];decide),if_neg]
 intro hp
 obtain ⟨q,a1,a2,a3⟩:=(Ar.cnt_lt hs.nm (by omega)).1 hp
 obtain ⟨t,rfl⟩:∃t:Nat,q = t:=⟨q.toNat,by omega⟩
 exact h t (by omega) (by omega) (by rw [hR.rt t (by omega)];exact a3)
theorem bU {p:Pr} {s:Sq} (hR:RelP p s) (hs:Ar.Sp p.rl) {g c:Nat} (hc:1≤c) (hg:g+c≤1024) (h:∃q:Nat,g≤q∧q < g+c∧s.rt q = 0):Ar.mdE p.rl g c = 7:=by
 obtain ⟨q,h1,h2,h3⟩:=h
 unfold Ar.mdE
 rw [if_neg (by rw [Ar.mayB_iff.2 ⟨by omega,by omega,by omega,by omega⟩];decide),if_pos]
 exact (Ar.cnt_lt hs.nm (by omega)).2 ⟨q,by omega,by omega,by rw [← hR.rt q (by omega)];exact h3⟩
theorem cQ {w:World} {m:Nat} {M:Mo} {sp:Nat→Option Nat} {vo ve:Value} {L:List Ob} {E:List Nat} {gb gm:Nat→Nat} {gs:Nat→Sq} (h:WIn w m M sp vo ve L E gb gm gs) (jF:∀k,FW' M m vo ve L gb gm k→k < w.heap.size)
  {x:Cl} (hx:x.Ok) {n:Nat} (kX:x.p = n) {p:Pr} (hp:M.pr n = some p) (Eu:p.pk < 256∧p.pm < 256∧∀q u,p.ow q = some u→u.1 < 256∧u.2 < 256) (hk:x.k = 16) {g:Nat} (hg:x.g = g) (wM:g < 1024) (v:Value) (hv:v.oneCell' = true) :
  Calls Tryz.prog 77 #[.pointer (some ⟨m,0,none⟩),.pointer (some ⟨gb n,0,none⟩),.agg (clc x v)] w fun e w'=>SpR w w' m M vo ve L E gb gm n (cd M x 0 p) e:=by
 obtain ⟨n1,n8⟩:=h.rng n p hp
 have mW:n < 9:=by omega
 have hR:cd M x 0 p = (⟨0,(ky p g).1 * 256+(ky p g).2,[]⟩,none):=by unfold cd;rw [if_neg (by omega),if_neg (by omega),if_pos hk,hg]
 obtain ⟨RR,kB⟩:∃R,R = cd M x 0 p:=⟨_,rfl⟩
 rw [← kB]
 rw [hR] at kB
 have jC:=ah kB
 clear hR kB
 obtain ⟨W1,jG⟩:∃W1,W1 = w.alloc (.cells (clc x v) 47):=⟨_,rfl⟩
 obtain ⟨W2,jB⟩:∃W2,W2 = W1.alloc (.cells (rsc zRs zV) 40):=⟨_,rfl⟩
 have c01:Chg [] w W1:=by rw [jG];exact (Chg.refl [] w).alloc _
 have c12:Chg [] W1 W2:=by rw [jB];exact (Chg.refl [] W1).alloc _
 have kG:KB W2 w.heap.size x v:=KB.stay (by rw [jG];exact Blk.new w _ _) c12
 have kJ:XB W2 W1.heap.size zRs zV:=by rw [jB];exact Blk.new W1 _ _
 have e1:W1.heap.size = w.heap.size+1:=by rw [jG];exact af _ _
 obtain ⟨b3,jS⟩:∃y,y = w.heap.size:=⟨_,rfl⟩
 obtain ⟨b6,kV⟩:∃y,y = W1.heap.size:=⟨_,rfl⟩
 rw [← jS] at kG
 rw [← kV] at kJ
 have HI:=ah (fun W (hc:Chg [] W2 W)=>h.stay ((c01.stay c12).stay hc))
 have kY:=ah (fun W (hc:Chg [] W2 W)=>(KB.stay kG hc:KB W b3 x v))
 have kD:=ah (fun W (hc:Chg [] W2 W)=>(XB.stay kJ hc:XB W b6 zRs zV))
 have jJ:=ah (c01.stay c12)
 have kW:=ah jG
 have jP:=ah jB
 have HB:=ah (show b3 = w.heap.size∧b6 = w.heap.size+1 by omega)
 have jY:=ah jS
 have kH:=ah kV
 have jK:=ah jF
 have HP:=ah hp
 have HN:=ah (show 1≤n∧n < 9 by omega)
 have mJ:=ah (And.intro hk kX)
 have pR:=ah hx
 have HG:=ah (And.intro hg wM);have HPK:=ah Eu
 clear h jF hx kX hp c01 c12 kG kJ e1 jS kV jG jB n1 n8 mW hk hg wM Eu
 go_enter Tryz.func77,Tryz.ntmps77
 go_upto_region 1 with (first|refine ax rfl _ rfl rfl ?_;try rw [← kW.out]|refine bn rfl rfl ?_;try rw [← jP.out])
 try rw [← jY.out,← kH.out]
 refine uh [0,1,0,1,0,0] ?_
 have hS:Chg [] W2 W2.drew:=(Chg.refl [] W2).drew
 generalize W2.drew = W3 at hS ⊢
 have HS:=ah hS
 have hI:=HI.out W3 hS
 obtain ⟨hq,lS,hrel⟩:=hI.pr n p HP.out
 have nE:=ah hI
 have HQ:=ah hq
 have nP:=ah lS
 have jQ:=ah hrel
 obtain ⟨r0,r1,-,r3,r4,r5,r6,r7,r8,r9,-,r11,rl,-⟩:=KB.cells (kY.out W3 hS)
 rw [mJ.out.1] at r0
 rw [mJ.out.2] at r1
 have gl:=Blk.lt hq
 have ml:=Blk.lt hI.blk
 rw [HG.out.1] at r3
 have qo:=QB.ow hq HG.out.2
 have gi0:(0:Int)≤(g:Int):=by omega
 have gi1:(g:Int) < 1024:=by have:=HG.out.2;omega
 obtain ⟨o,ho⟩:∃o,o = (gs n).ow g:=⟨_,rfl⟩
 rw [← ho] at qo
 obtain ⟨ka,kb,uP⟩:∃ka kb:Nat,(if o = true then (gs n).po g else ((gs n).ak,(gs n).am)) = (ka,kb):=⟨_,_,rfl⟩
 have hka:ky p g = (ka,kb)∧ka < 256∧kb < 256:=by
  unfold ky
  have h1:=jQ.out.ow g HG.out.2
  rw [← ho] at h1
  cases mD:p.ow (g:Int) with
  | none =>
   rw [mD] at h1
   rw [if_neg (by rw [h1];decide),jQ.out.ak,jQ.out.am] at uP
   obtain ⟨rfl,rfl⟩:=Prod.mk.inj uP
   exact ⟨rfl,HPK.out.1,HPK.out.2.1⟩
  | some u =>
   rw [mD] at h1
   rw [if_pos (show o = true from h1),jQ.out.po g HG.out.2 u mD] at uP
   have h3:=HPK.out.2.2 _ _ mD
   rw [uP] at h3
   exact ⟨uP,h3.1,h3.2⟩
 have Ev:=iN hq HG.out.2
 have sA:=eG hq
 obtain rfl:RR = (⟨0,ka * 256+kb,[]⟩,none):=by rw [jC.out,hka.1]
 have HKA:=ah hka
 have Fd:=ah uP
 have EV:=ah (br_v (ka * 256+kb))
 clear ho hka uP
 clear hS hI hq lS hrel
 cases o with
 | true =>
  have e2:=Fd.out;rw [if_pos rfl] at e2;have e3:((gs n).po g).1 = ka:=by rw [e2]
  have e4:((gs n).po g).2 = kb:=by rw [e2]
  rw [e3,e4] at Ev
  clear e2 e3 e4
  go_wp2_with (first|refine gc (ty:=45) (ad:=⟨gb n,2049+g * 2,none⟩) (v:=.agg #[.int .u8 ka,.int .u8 kb]) rfl _ rfl rfl ?_ ?_;(focus exact Ev)|refine av fun K I=>?_|refine ai fun K I=>?_;go_simp;refine I _ _ ?_;clear I K|refine ao fun K I=>?_;go_simp|refine aj ?_)
  refine (bK HKA.out.2.1 HKA.out.2.2 _).mono ?_
  rintro e W5 ⟨rfl,U⟩
  have jM:=ah U
  clear U
  go_wp2_with (first|refine bx rfl _ rfl EV.out ?_ ?_;(focus (simp [Act.eval,Act.put];done))|refine au (b:=b6) (x:=zRs) (v:=zV) (y:=⟨0,ka * 256+kb,[]⟩) (u:=zV) rfl _ _ rfl rfl rfl rfl (XB.stay (kD.out W3 HS.out) jM.out) ?_;intro W6 h6 iZ)
  refine bodyPost_ret (v:=.agg (rsc ⟨0,ka * 256+kb,[]⟩ zV)) (results_cell_row (p:=6) (ty:=40) rfl _ _ b6 40 _ (0,0) _ rfl h6 Tryz.underlying40 rfl ct) rfl ?_
  refine ⟨none,0,0,rfl,RE.nil ucl 1 _ none 0,fun _ hk=>(bw hk).elim,⟨sp,gs,?_⟩,?_⟩
  ·exact (nE.out.stay jM.out).new (B:=w.heap.size) jK.out iZ (fun y hy=>by obtain rfl:=aa hy;have:=HB.out;omega)
  ·exact (((jJ.out.stay HS.out).stay jM.out).up [m,gb n,gm n]).trans iZ (fun y hy=>.inr (by obtain rfl:=aa hy;have:=HB.out;omega))
 | false =>
  have e2:=Fd.out;rw [if_neg (by decide)] at e2;obtain ⟨e3,e4⟩:=Prod.mk.inj e2
  rw [e3,e4] at sA
  clear e2 e3 e4
  go_wp2_with (first|refine gc (ty:=45) (ad:=⟨gb n,4097,none⟩) (v:=.agg #[.int .u8 ka,.int .u8 kb]) rfl _ rfl rfl ?_ ?_;(focus exact sA)|refine av fun K I=>?_|refine ai fun K I=>?_;go_simp;refine I _ _ ?_;clear I K|refine ao fun K I=>?_;go_simp|refine aj ?_)
  refine (bK HKA.out.2.1 HKA.out.2.2 _).mono ?_
  rintro e W5 ⟨rfl,U⟩
  have jM:=ah U
  clear U
  go_wp2_with (first|refine bx rfl _ rfl EV.out ?_ ?_;(focus (simp [Act.eval,Act.put];done))|refine au (b:=b6) (x:=zRs) (v:=zV) (y:=⟨0,ka * 256+kb,[]⟩) (u:=zV) rfl _ _ rfl rfl rfl rfl (XB.stay (kD.out W3 HS.out) jM.out) ?_;intro W6 h6 iZ)
  refine bodyPost_ret (v:=.agg (rsc ⟨0,ka * 256+kb,[]⟩ zV)) (results_cell_row (p:=6) (ty:=40) rfl _ _ b6 40 _ (0,0) _ rfl h6 Tryz.underlying40 rfl ct) rfl ?_
  refine ⟨none,0,0,rfl,RE.nil ucl 1 _ none 0,fun _ hk=>(bw hk).elim,⟨sp,gs,?_⟩,?_⟩
  ·exact (nE.out.stay jM.out).new (B:=w.heap.size) jK.out iZ (fun y hy=>by obtain rfl:=aa hy;have:=HB.out;omega)
  ·exact (((jJ.out.stay HS.out).stay jM.out).up [m,gb n,gm n]).trans iZ (fun y hy=>.inr (by obtain rfl:=aa hy;have:=HB.out;omega))
theorem cR {w:World} {m:Nat} {M:Mo} {sp:Nat→Option Nat} {vo ve:Value} {L:List Ob} {E:List Nat} {gb gm:Nat→Nat} {gs:Nat→Sq} (h:WIn w m M sp vo ve L E gb gm gs) (jF:∀k,FW' M m vo ve L gb gm k→k < w.heap.size)
  {x:Cl} (hx:x.Ok) {n:Nat} (kX:x.p = n) {p:Pr} (hp:M.pr n = some p) (hs:Ar.Sp p.rl) (hk:x.k = 17) {g:Nat} (hg:x.g = g) (wM:g < 1024) (nH:x.c = 0) (v:Value) (hv:v.oneCell' = true) :
  Calls Tryz.prog 77 #[.pointer (some ⟨m,0,none⟩),.pointer (some ⟨gb n,0,none⟩),.agg (clc x v)] w fun e w'=>SpR w w' m M vo ve L E gb gm n (cd M x 0 p) e:=by
 obtain ⟨n1,n8⟩:=h.rng n p hp
 have mW:n < 9:=by omega
 have hR:cd M x 0 p = (if Ar.mdE p.rl g ((1:Nat):Int)≠0 then (aq 7,none) else (aq 0,none)):=by
  unfold cd
  rw [if_neg (by omega),if_neg (by omega),if_neg (by omega),if_neg (by omega),if_neg (by omega),show max x.c 1 = ((1:Nat):Int) by omega,hg]
  split
  ·rfl
  ·first|(rw [if_pos hk,Nat.zero_min];rfl)|(rw [Nat.zero_min];rfl)|(rw [if_neg (by omega),if_neg (by omega)]) | rfl
 obtain ⟨RR,kB⟩:∃R,R = cd M x 0 p:=⟨_,rfl⟩
 rw [← kB]
 rw [hR] at kB
 have jC:=ah kB
 clear hR kB
 obtain ⟨W1,jG⟩:∃W1,W1 = w.alloc (.cells (clc x v) 47):=⟨_,rfl⟩
 obtain ⟨W2,jB⟩:∃W2,W2 = W1.alloc (.cells (rsc zRs zV) 40):=⟨_,rfl⟩
 have c01:Chg [] w W1:=by rw [jG];exact (Chg.refl [] w).alloc _
 have c12:Chg [] W1 W2:=by rw [jB];exact (Chg.refl [] W1).alloc _
 have kG:KB W2 w.heap.size x v:=KB.stay (by rw [jG];exact Blk.new w _ _) c12
 have kJ:XB W2 W1.heap.size zRs zV:=by rw [jB];exact Blk.new W1 _ _
 have e1:W1.heap.size = w.heap.size+1:=by rw [jG];exact af _ _
 obtain ⟨b3,jS⟩:∃y,y = w.heap.size:=⟨_,rfl⟩
 obtain ⟨b6,kV⟩:∃y,y = W1.heap.size:=⟨_,rfl⟩
 rw [← jS] at kG
 rw [← kV] at kJ
 have HI:=ah (fun W (hc:Chg [] W2 W)=>h.stay ((c01.stay c12).stay hc))
 have kY:=ah (fun W (hc:Chg [] W2 W)=>(KB.stay kG hc:KB W b3 x v))
 have kD:=ah (fun W (hc:Chg [] W2 W)=>(XB.stay kJ hc:XB W b6 zRs zV))
 have jJ:=ah (c01.stay c12)
 have kW:=ah jG
 have jP:=ah jB
 have HB:=ah (show b3 = w.heap.size∧b6 = w.heap.size+1 by omega)
 have jY:=ah jS
 have kH:=ah kV
 have jK:=ah jF
 have HP:=ah hp
 have HN:=ah (show 1≤n∧n < 9 by omega)
 have mJ:=ah (And.intro hk kX)
 have pR:=ah hx
 have HG:=ah (And.intro hg (show 1≤(1:Nat)∧g+1≤1024 by omega));have lI:=ah hs
 clear h jF hx kX hp c01 c12 kG kJ e1 jS kV jG jB n1 n8 mW hk hg hs wM nH
 go_enter Tryz.func77,Tryz.ntmps77
 go_upto_region 1 with (first|refine ax rfl _ rfl rfl ?_;try rw [← kW.out]|refine bn rfl rfl ?_;try rw [← jP.out])
 try rw [← jY.out,← kH.out]
 refine uh [0,1,0,1,0,0] ?_
 have hS:Chg [] W2 W2.drew:=(Chg.refl [] W2).drew
 generalize W2.drew = W3 at hS ⊢
 have HS:=ah hS
 have hI:=HI.out W3 hS
 obtain ⟨hq,lS,hrel⟩:=hI.pr n p HP.out
 have nE:=ah hI
 have HQ:=ah hq
 have nP:=ah lS
 have jQ:=ah hrel
 obtain ⟨r0,r1,-,r3,r4,r5,r6,r7,r8,r9,-,r11,rl,-⟩:=KB.cells (kY.out W3 hS)
 rw [mJ.out.1] at r0
 rw [mJ.out.2] at r1
 have gl:=Blk.lt hq
 have ml:=Blk.lt hI.blk
 rw [HG.out.1] at r3
 have lV:=ah (ip hq (p:=g) (c:=1) HG.out.2.2)
 clear hS hI hq lS hrel
 go_wp2_with (first|refine av fun K I=>?_|refine ai fun K I=>?_;go_simp;refine I _ _ ?_;clear I K|refine ao fun K I=>?_;go_simp|refine aj ?_)
 refine lV.out.mono ?_
 rintro e W4 ⟨⟨rfl,jX⟩ | ⟨rfl,jZ⟩,rfl⟩
 ·obtain rfl:RR = (aq 0,none):=by rw [jC.out];exact if_neg (fun hn=>hn (wj jQ.out lI.out HG.out.2.1 HG.out.2.2 jX))
  clear jX lV
  go_wp2_with fail
  refine (dd 0 _).mono ?_
  rintro e W5 ⟨rfl,U⟩
  have jM:=ah U
  clear U
  go_wp2_with (first|refine au (b:=b6) (x:=zRs) (v:=zV) (y:=aq 0) (u:=zV) rfl _ _ rfl rfl rfl rfl (XB.stay (kD.out W3 HS.out) jM.out) ?_;intro W6 h6 iZ)
  refine bodyPost_ret (v:=.agg (rsc (aq 0) zV)) (results_cell_row (p:=6) (ty:=40) rfl _ _ b6 40 _ (0,0) _ rfl h6 Tryz.underlying40 rfl ct) rfl ?_
  refine ⟨none,0,0,rfl,RE.nil ucl 1 _ none 0,fun _ hk=>(bw hk).elim,⟨sp,gs,?_⟩,?_⟩
  ·exact (nE.out.stay jM.out).new (B:=w.heap.size) jK.out iZ (fun y hy=>by obtain rfl:=aa hy;have:=HB.out;omega)
  ·exact (((jJ.out.stay HS.out).stay jM.out).up [m,gb n,gm n]).trans iZ (fun y hy=>.inr (by obtain rfl:=aa hy;have:=HB.out;omega))
 ·obtain rfl:RR = (aq 7,none):=by rw [jC.out];exact if_pos (by rw [bU jQ.out lI.out HG.out.2.1 HG.out.2.2 jZ];decide)
  clear jZ lV
  go_wp2_with fail
  refine (dd 7 _).mono ?_
  rintro e W5 ⟨rfl,U⟩
  have jM:=ah U
  clear U
  go_wp2_with (first|refine au (b:=b6) (x:=zRs) (v:=zV) (y:=aq 7) (u:=zV) rfl _ _ rfl rfl rfl rfl (XB.stay (kD.out W3 HS.out) jM.out) ?_;intro W6 h6 iZ)
  refine bodyPost_ret (v:=.agg (rsc (aq 7) zV)) (results_cell_row (p:=6) (ty:=40) rfl _ _ b6 40 _ (0,0) _ rfl h6 Tryz.underlying40 rfl ct) rfl ?_
  refine ⟨none,0,0,rfl,RE.nil ucl 1 _ none 0,fun _ hk=>(bw hk).elim,⟨sp,gs,?_⟩,?_⟩
  ·exact (nE.out.stay jM.out).new (B:=w.heap.size) jK.out iZ (fun y hy=>by obtain rfl:=aa hy;have:=HB.out;omega)
  ·exact (((jJ.out.stay HS.out).stay jM.out).up [m,gb n,gm n]).trans iZ (fun y hy=>.inr (by obtain rfl:=aa hy;have:=HB.out;omega))
theorem eV {w:World} {m:Nat} {M:Mo} {sp:Nat→Option Nat} {vo ve:Value} {L:List Ob} {E:List Nat} {gb gm:Nat→Nat} {gs:Nat→Sq} (h:WIn w m M sp vo ve L E gb gm gs) (jF:∀k,FW' M m vo ve L gb gm k→k < w.heap.size)
  {x:Cl} (hx:x.Ok) {n:Nat} (kX:x.p = n) {p:Pr} (hp:M.pr n = some p) (hs:Ar.Sp p.rl) (hk:x.k = 6) {g:Nat} (hg:x.g = g) {c:Nat} (hc:x.c = c) (jH:1≤c) (BN:g+c≤1024) (v:Value) (hv:v.oneCell' = true) :
  Calls Tryz.prog 77 #[.pointer (some ⟨m,0,none⟩),.pointer (some ⟨gb n,0,none⟩),.agg (clc x v)] w fun e w'=>SpR w w' m M vo ve L E gb gm n (cd M x 0 p) e:=by
 obtain ⟨n1,n8⟩:=h.rng n p hp
 have mW:n < 9:=by omega
 have hR:cd M x 0 p = (if Ar.mdE p.rl g ((c:Nat):Int)≠0 then (aq 7,none) else (aq 0,none)):=by
  unfold cd
  rw [if_neg (by omega),if_neg (by omega),if_neg (by omega),if_neg (by omega),if_neg (by omega),show max x.c 1 = ((c:Nat):Int) by omega,hg]
  split
  ·rfl
  ·first|(rw [if_pos hk,Nat.zero_min];rfl)|(rw [Nat.zero_min];rfl)|(rw [if_neg (by omega),if_neg (by omega)]) | rfl
 obtain ⟨RR,kB⟩:∃R,R = cd M x 0 p:=⟨_,rfl⟩
 rw [← kB]
 rw [hR] at kB
 have jC:=ah kB
 clear hR kB
 obtain ⟨W1,jG⟩:∃W1,W1 = w.alloc (.cells (clc x v) 47):=⟨_,rfl⟩
 obtain ⟨W2,jB⟩:∃W2,W2 = W1.alloc (.cells (rsc zRs zV) 40):=⟨_,rfl⟩
 have c01:Chg [] w W1:=by rw [jG];exact (Chg.refl [] w).alloc _
 have c12:Chg [] W1 W2:=by rw [jB];exact (Chg.refl [] W1).alloc _
 have kG:KB W2 w.heap.size x v:=KB.stay (by rw [jG];exact Blk.new w _ _) c12
 have kJ:XB W2 W1.heap.size zRs zV:=by rw [jB];exact Blk.new W1 _ _
 have e1:W1.heap.size = w.heap.size+1:=by rw [jG];exact af _ _
 obtain ⟨b3,jS⟩:∃y,y = w.heap.size:=⟨_,rfl⟩
 obtain ⟨b6,kV⟩:∃y,y = W1.heap.size:=⟨_,rfl⟩
 rw [← jS] at kG
 rw [← kV] at kJ
 have HI:=ah (fun W (hc:Chg [] W2 W)=>h.stay ((c01.stay c12).stay hc))
 have kY:=ah (fun W (hc:Chg [] W2 W)=>(KB.stay kG hc:KB W b3 x v))
 have kD:=ah (fun W (hc:Chg [] W2 W)=>(XB.stay kJ hc:XB W b6 zRs zV))
 have jJ:=ah (c01.stay c12)
 have kW:=ah jG
 have jP:=ah jB
 have HB:=ah (show b3 = w.heap.size∧b6 = w.heap.size+1 by omega)
 have jY:=ah jS
 have kH:=ah kV
 have jK:=ah jF
 have HP:=ah hp
 have HN:=ah (show 1≤n∧n < 9 by omega)
 have mJ:=ah (And.intro hk kX)
 have pR:=ah hx
 have HG:=ah (And.intro hg (show 1≤(c:Nat)∧g+c≤1024 by omega));have lI:=ah hs;have pQ:=ah hc
 clear h jF hx kX hp c01 c12 kG kJ e1 jS kV jG jB n1 n8 mW hk hg hs hc jH BN
 go_enter Tryz.func77,Tryz.ntmps77
 go_upto_region 1 with (first|refine ax rfl _ rfl rfl ?_;try rw [← kW.out]|refine bn rfl rfl ?_;try rw [← jP.out])
 try rw [← jY.out,← kH.out]
 refine uh [0,1,0,1,0,0] ?_
 have hS:Chg [] W2 W2.drew:=(Chg.refl [] W2).drew
 generalize W2.drew = W3 at hS ⊢
 have HS:=ah hS
 have hI:=HI.out W3 hS
 obtain ⟨hq,lS,hrel⟩:=hI.pr n p HP.out
 have nE:=ah hI
 have HQ:=ah hq
 have nP:=ah lS
 have jQ:=ah hrel
 obtain ⟨r0,r1,-,r3,r4,r5,r6,r7,r8,r9,-,r11,rl,-⟩:=KB.cells (kY.out W3 hS)
 rw [mJ.out.1] at r0
 rw [mJ.out.2] at r1
 have gl:=Blk.lt hq
 have ml:=Blk.lt hI.blk
 rw [HG.out.1] at r3
 rw [pQ.out] at r4
 have lV:=ah (ip hq (p:=g) (c:=c) HG.out.2.2)
 clear hS hI hq lS hrel
 go_wp2_with (first|refine av fun K I=>?_|refine ai fun K I=>?_;go_simp;refine I _ _ ?_;clear I K|refine ao fun K I=>?_;go_simp|refine aj ?_)
 refine lV.out.mono ?_
 rintro e W4 ⟨⟨rfl,jX⟩ | ⟨rfl,jZ⟩,rfl⟩
 ·obtain rfl:RR = (aq 0,none):=by rw [jC.out];exact if_neg (fun hn=>hn (wj jQ.out lI.out HG.out.2.1 HG.out.2.2 jX))
  clear jX lV
  go_wp2_with fail
  refine (dd 0 _).mono ?_
  rintro e W5 ⟨rfl,U⟩
  have jM:=ah U
  clear U
  go_wp2_with (first|refine au (b:=b6) (x:=zRs) (v:=zV) (y:=aq 0) (u:=zV) rfl _ _ rfl rfl rfl rfl (XB.stay (kD.out W3 HS.out) jM.out) ?_;intro W6 h6 iZ)
  refine bodyPost_ret (v:=.agg (rsc (aq 0) zV)) (results_cell_row (p:=6) (ty:=40) rfl _ _ b6 40 _ (0,0) _ rfl h6 Tryz.underlying40 rfl ct) rfl ?_
  refine ⟨none,0,0,rfl,RE.nil ucl 1 _ none 0,fun _ hk=>(bw hk).elim,⟨sp,gs,?_⟩,?_⟩
  ·exact (nE.out.stay jM.out).new (B:=w.heap.size) jK.out iZ (fun y hy=>by obtain rfl:=aa hy;have:=HB.out;omega)
  ·exact (((jJ.out.stay HS.out).stay jM.out).up [m,gb n,gm n]).trans iZ (fun y hy=>.inr (by obtain rfl:=aa hy;have:=HB.out;omega))
 ·obtain rfl:RR = (aq 7,none):=by rw [jC.out];exact if_pos (by rw [bU jQ.out lI.out HG.out.2.1 HG.out.2.2 jZ];decide)
  clear jZ lV
  go_wp2_with fail
  refine (dd 7 _).mono ?_
  rintro e W5 ⟨rfl,U⟩
  have jM:=ah U
  clear U
  go_wp2_with (first|refine au (b:=b6) (x:=zRs) (v:=zV) (y:=aq 7) (u:=zV) rfl _ _ rfl rfl rfl rfl (XB.stay (kD.out W3 HS.out) jM.out) ?_;intro W6 h6 iZ)
  refine bodyPost_ret (v:=.agg (rsc (aq 7) zV)) (results_cell_row (p:=6) (ty:=40) rfl _ _ b6 40 _ (0,0) _ rfl h6 Tryz.underlying40 rfl ct) rfl ?_
  refine ⟨none,0,0,rfl,RE.nil ucl 1 _ none 0,fun _ hk=>(bw hk).elim,⟨sp,gs,?_⟩,?_⟩
  ·exact (nE.out.stay jM.out).new (B:=w.heap.size) jK.out iZ (fun y hy=>by obtain rfl:=aa hy;have:=HB.out;omega)
  ·exact (((jJ.out.stay HS.out).stay jM.out).up [m,gb n,gm n]).trans iZ (fun y hy=>.inr (by obtain rfl:=aa hy;have:=HB.out;omega))
theorem eW {w:World} {m:Nat} {M:Mo} {sp:Nat→Option Nat} {vo ve:Value} {L:List Ob} {E:List Nat} {gb gm:Nat→Nat} {gs:Nat→Sq} (h:WIn w m M sp vo ve L E gb gm gs) (jF:∀k,FW' M m vo ve L gb gm k→k < w.heap.size)
  {x:Cl} (hx:x.Ok) {n:Nat} (kX:x.p = n) {p:Pr} (hp:M.pr n = some p) (hs:Ar.Sp p.rl) (hk:x.k = 7) {g:Nat} (hg:x.g = g) {c:Nat} (hc:x.c = c) (jH:1≤c) (BN:g+c≤1024) (v:Value) (hv:v.oneCell' = true) :
  Calls Tryz.prog 77 #[.pointer (some ⟨m,0,none⟩),.pointer (some ⟨gb n,0,none⟩),.agg (clc x v)] w fun e w'=>SpR w w' m M vo ve L E gb gm n (cd M x 0 p) e:=by
 obtain ⟨n1,n8⟩:=h.rng n p hp
 have mW:n < 9:=by omega
 have hR:cd M x 0 p = (if Ar.mdE p.rl g ((c:Nat):Int)≠0 then (aq 7,none) else (aq 0,none)):=by
  unfold cd
  rw [if_neg (by omega),if_neg (by omega),if_neg (by omega),if_neg (by omega),if_neg (by omega),show max x.c 1 = ((c:Nat):Int) by omega,hg]
  split
  ·rfl
  ·first|(rw [if_pos hk,Nat.zero_min];rfl)|(rw [Nat.zero_min];rfl)|(rw [if_neg (by omega),if_neg (by omega)]) | rfl
 obtain ⟨RR,kB⟩:∃R,R = cd M x 0 p:=⟨_,rfl⟩
 rw [← kB]
 rw [hR] at kB
 have jC:=ah kB
 clear hR kB
 obtain ⟨W1,jG⟩:∃W1,W1 = w.alloc (.cells (clc x v) 47):=⟨_,rfl⟩
 obtain ⟨W2,jB⟩:∃W2,W2 = W1.alloc (.cells (rsc zRs zV) 40):=⟨_,rfl⟩
 have c01:Chg [] w W1:=by rw [jG];exact (Chg.refl [] w).alloc _
 have c12:Chg [] W1 W2:=by rw [jB];exact (Chg.refl [] W1).alloc _
 have kG:KB W2 w.heap.size x v:=KB.stay (by rw [jG];exact Blk.new w _ _) c12
 have kJ:XB W2 W1.heap.size zRs zV:=by rw [jB];exact Blk.new W1 _ _
 have e1:W1.heap.size = w.heap.size+1:=by rw [jG];exact af _ _
 obtain ⟨b3,jS⟩:∃y,y = w.heap.size:=⟨_,rfl⟩
 obtain ⟨b6,kV⟩:∃y,y = W1.heap.size:=⟨_,rfl⟩
 rw [← jS] at kG
 rw [← kV] at kJ
 have HI:=ah (fun W (hc:Chg [] W2 W)=>h.stay ((c01.stay c12).stay hc))
 have kY:=ah (fun W (hc:Chg [] W2 W)=>(KB.stay kG hc:KB W b3 x v))
 have kD:=ah (fun W (hc:Chg [] W2 W)=>(XB.stay kJ hc:XB W b6 zRs zV))
 have jJ:=ah (c01.stay c12)
 have kW:=ah jG
 have jP:=ah jB
 have HB:=ah (show b3 = w.heap.size∧b6 = w.heap.size+1 by omega)
 have jY:=ah jS
 have kH:=ah kV
 have jK:=ah jF
 have HP:=ah hp
 have HN:=ah (show 1≤n∧n < 9 by omega)
 have mJ:=ah (And.intro hk kX)
 have pR:=ah hx
 have HG:=ah (And.intro hg (show 1≤(c:Nat)∧g+c≤1024 by omega));have lI:=ah hs;have pQ:=ah hc
 clear h jF hx kX hp c01 c12 kG kJ e1 jS kV jG jB n1 n8 mW hk hg hs hc jH BN
 go_enter Tryz.func77,Tryz.ntmps77
 go_upto_region 1 with (first|refine ax rfl _ rfl rfl ?_;try rw [← kW.out]|refine bn rfl rfl ?_;try rw [← jP.out])
 try rw [← jY.out,← kH.out]
 refine uh [0,1,0,1,0,0] ?_
 have hS:Chg [] W2 W2.drew:=(Chg.refl [] W2).drew
 generalize W2.drew = W3 at hS ⊢
 have HS:=ah hS
 have hI:=HI.out W3 hS
 obtain ⟨hq,lS,hrel⟩:=hI.pr n p HP.out
 have nE:=ah hI
 have HQ:=ah hq
 have nP:=ah lS
 have jQ:=ah hrel
 obtain ⟨r0,r1,-,r3,r4,r5,r6,r7,r8,r9,-,r11,rl,-⟩:=KB.cells (kY.out W3 hS)
 rw [mJ.out.1] at r0
 rw [mJ.out.2] at r1
 have gl:=Blk.lt hq
 have ml:=Blk.lt hI.blk
 rw [HG.out.1] at r3
 rw [pQ.out] at r4
 have lV:=ah (ip hq (p:=g) (c:=c) HG.out.2.2)
 clear hS hI hq lS hrel
 go_wp2_with (first|refine av fun K I=>?_|refine ai fun K I=>?_;go_simp;refine I _ _ ?_;clear I K|refine ao fun K I=>?_;go_simp|refine aj ?_)
 refine lV.out.mono ?_
 rintro e W4 ⟨⟨rfl,jX⟩ | ⟨rfl,jZ⟩,rfl⟩
 ·obtain rfl:RR = (aq 0,none):=by rw [jC.out];exact if_neg (fun hn=>hn (wj jQ.out lI.out HG.out.2.1 HG.out.2.2 jX))
  clear jX lV
  go_wp2_with fail
  refine (dd 0 _).mono ?_
  rintro e W5 ⟨rfl,U⟩
  have jM:=ah U
  clear U
  go_wp2_with (first|refine au (b:=b6) (x:=zRs) (v:=zV) (y:=aq 0) (u:=zV) rfl _ _ rfl rfl rfl rfl (XB.stay (kD.out W3 HS.out) jM.out) ?_;intro W6 h6 iZ)
  refine bodyPost_ret (v:=.agg (rsc (aq 0) zV)) (results_cell_row (p:=6) (ty:=40) rfl _ _ b6 40 _ (0,0) _ rfl h6 Tryz.underlying40 rfl ct) rfl ?_
  refine ⟨none,0,0,rfl,RE.nil ucl 1 _ none 0,fun _ hk=>(bw hk).elim,⟨sp,gs,?_⟩,?_⟩
  ·exact (nE.out.stay jM.out).new (B:=w.heap.size) jK.out iZ (fun y hy=>by obtain rfl:=aa hy;have:=HB.out;omega)
  ·exact (((jJ.out.stay HS.out).stay jM.out).up [m,gb n,gm n]).trans iZ (fun y hy=>.inr (by obtain rfl:=aa hy;have:=HB.out;omega))
 ·obtain rfl:RR = (aq 7,none):=by rw [jC.out];exact if_pos (by rw [bU jQ.out lI.out HG.out.2.1 HG.out.2.2 jZ];decide)
  clear jZ lV
  go_wp2_with fail
  refine (dd 7 _).mono ?_
  rintro e W5 ⟨rfl,U⟩
  have jM:=ah U
  clear U
  go_wp2_with (first|refine au (b:=b6) (x:=zRs) (v:=zV) (y:=aq 7) (u:=zV) rfl _ _ rfl rfl rfl rfl (XB.stay (kD.out W3 HS.out) jM.out) ?_;intro W6 h6 iZ)
  refine bodyPost_ret (v:=.agg (rsc (aq 7) zV)) (results_cell_row (p:=6) (ty:=40) rfl _ _ b6 40 _ (0,0) _ rfl h6 Tryz.underlying40 rfl ct) rfl ?_
  refine ⟨none,0,0,rfl,RE.nil ucl 1 _ none 0,fun _ hk=>(bw hk).elim,⟨sp,gs,?_⟩,?_⟩
  ·exact (nE.out.stay jM.out).new (B:=w.heap.size) jK.out iZ (fun y hy=>by obtain rfl:=aa hy;have:=HB.out;omega)
  ·exact (((jJ.out.stay HS.out).stay jM.out).up [m,gb n,gm n]).trans iZ (fun y hy=>.inr (by obtain rfl:=aa hy;have:=HB.out;omega))
theorem cS {w:World} {m:Nat} {M:Mo} {sp:Nat→Option Nat} {vo ve:Value} {L:List Ob} {E:List Nat} {gb gm:Nat→Nat} {gs:Nat→Sq} (h:WIn w m M sp vo ve L E gb gm gs) (jF:∀k,FW' M m vo ve L gb gm k→k < w.heap.size)
  {x:Cl} (hx:x.Ok) {n:Nat} (kX:x.p = n) {p:Pr} (hp:M.pr n = some p) (hs:Ar.Sp p.rl) (hk:x.k = 18) {g:Nat} (hg:x.g = g) {c:Nat} (hc:x.c = c) (jH:1≤c) (BN:g+c≤1024) (v:Value) (hv:v.oneCell' = true) :
  Calls Tryz.prog 77 #[.pointer (some ⟨m,0,none⟩),.pointer (some ⟨gb n,0,none⟩),.agg (clc x v)] w fun e w'=>SpR w w' m M vo ve L E gb gm n (cd M x 0 p) e:=by
 obtain ⟨n1,n8⟩:=h.rng n p hp
 have mW:n < 9:=by omega
 have hR:cd M x 0 p = (if Ar.mdE p.rl g ((c:Nat):Int)≠0 then (aq 7,none) else (aq 0,none)):=by
  unfold cd
  rw [if_neg (by omega),if_neg (by omega),if_neg (by omega),if_neg (by omega),if_neg (by omega),show max x.c 1 = ((c:Nat):Int) by omega,hg]
  split
  ·rfl
  ·first|(rw [if_pos hk,Nat.zero_min];rfl)|(rw [Nat.zero_min];rfl)|(rw [if_neg (by omega),if_neg (by omega)]) | rfl
 obtain ⟨RR,kB⟩:∃R,R = cd M x 0 p:=⟨_,rfl⟩
 rw [← kB]
 rw [hR] at kB
 have jC:=ah kB
 clear hR kB
 obtain ⟨W1,jG⟩:∃W1,W1 = w.alloc (.cells (clc x v) 47):=⟨_,rfl⟩
 obtain ⟨W2,jB⟩:∃W2,W2 = W1.alloc (.cells (rsc zRs zV) 40):=⟨_,rfl⟩
 have c01:Chg [] w W1:=by rw [jG];exact (Chg.refl [] w).alloc _
 have c12:Chg [] W1 W2:=by rw [jB];exact (Chg.refl [] W1).alloc _
 have kG:KB W2 w.heap.size x v:=KB.stay (by rw [jG];exact Blk.new w _ _) c12
 have kJ:XB W2 W1.heap.size zRs zV:=by rw [jB];exact Blk.new W1 _ _
 have e1:W1.heap.size = w.heap.size+1:=by rw [jG];exact af _ _
 obtain ⟨b3,jS⟩:∃y,y = w.heap.size:=⟨_,rfl⟩
 obtain ⟨b6,kV⟩:∃y,y = W1.heap.size:=⟨_,rfl⟩
 rw [← jS] at kG
 rw [← kV] at kJ
 have HI:=ah (fun W (hc:Chg [] W2 W)=>h.stay ((c01.stay c12).stay hc))
 have kY:=ah (fun W (hc:Chg [] W2 W)=>(KB.stay kG hc:KB W b3 x v))
 have kD:=ah (fun W (hc:Chg [] W2 W)=>(XB.stay kJ hc:XB W b6 zRs zV))
 have jJ:=ah (c01.stay c12)
 have kW:=ah jG
 have jP:=ah jB
 have HB:=ah (show b3 = w.heap.size∧b6 = w.heap.size+1 by omega)
 have jY:=ah jS
 have kH:=ah kV
 have jK:=ah jF
 have HP:=ah hp
 have HN:=ah (show 1≤n∧n < 9 by omega)
 have mJ:=ah (And.intro hk kX)
 have pR:=ah hx
 have HG:=ah (And.intro hg (show 1≤(c:Nat)∧g+c≤1024 by omega));have lI:=ah hs;have pQ:=ah hc
 clear h jF hx kX hp c01 c12 kG kJ e1 jS kV jG jB n1 n8 mW hk hg hs hc jH BN
 go_enter Tryz.func77,Tryz.ntmps77
 go_upto_region 1 with (first|refine ax rfl _ rfl rfl ?_;try rw [← kW.out]|refine bn rfl rfl ?_;try rw [← jP.out])
 try rw [← jY.out,← kH.out]
 refine uh [0,1,0,1,0,0] ?_
 have hS:Chg [] W2 W2.drew:=(Chg.refl [] W2).drew
 generalize W2.drew = W3 at hS ⊢
 have HS:=ah hS
 have hI:=HI.out W3 hS
 obtain ⟨hq,lS,hrel⟩:=hI.pr n p HP.out
 have nE:=ah hI
 have HQ:=ah hq
 have nP:=ah lS
 have jQ:=ah hrel
 obtain ⟨r0,r1,-,r3,r4,r5,r6,r7,r8,r9,-,r11,rl,-⟩:=KB.cells (kY.out W3 hS)
 rw [mJ.out.1] at r0
 rw [mJ.out.2] at r1
 have gl:=Blk.lt hq
 have ml:=Blk.lt hI.blk
 rw [HG.out.1] at r3
 rw [pQ.out] at r4
 have lV:=ah (ip hq (p:=g) (c:=c) HG.out.2.2)
 clear hS hI hq lS hrel
 go_wp2_with (first|refine av fun K I=>?_|refine ai fun K I=>?_;go_simp;refine I _ _ ?_;clear I K|refine ao fun K I=>?_;go_simp|refine aj ?_)
 refine lV.out.mono ?_
 rintro e W4 ⟨⟨rfl,jX⟩ | ⟨rfl,jZ⟩,rfl⟩
 ·obtain rfl:RR = (aq 0,none):=by rw [jC.out];exact if_neg (fun hn=>hn (wj jQ.out lI.out HG.out.2.1 HG.out.2.2 jX))
  clear jX lV
  go_wp2_with fail
  refine (dd 0 _).mono ?_
  rintro e W5 ⟨rfl,U⟩
  have jM:=ah U
  clear U
  go_wp2_with (first|refine au (b:=b6) (x:=zRs) (v:=zV) (y:=aq 0) (u:=zV) rfl _ _ rfl rfl rfl rfl (XB.stay (kD.out W3 HS.out) jM.out) ?_;intro W6 h6 iZ)
  refine bodyPost_ret (v:=.agg (rsc (aq 0) zV)) (results_cell_row (p:=6) (ty:=40) rfl _ _ b6 40 _ (0,0) _ rfl h6 Tryz.underlying40 rfl ct) rfl ?_
  refine ⟨none,0,0,rfl,RE.nil ucl 1 _ none 0,fun _ hk=>(bw hk).elim,⟨sp,gs,?_⟩,?_⟩
  ·exact (nE.out.stay jM.out).new (B:=w.heap.size) jK.out iZ (fun y hy=>by obtain rfl:=aa hy;have:=HB.out;omega)
  ·exact (((jJ.out.stay HS.out).stay jM.out).up [m,gb n,gm n]).trans iZ (fun y hy=>.inr (by obtain rfl:=aa hy;have:=HB.out;omega))
 ·obtain rfl:RR = (aq 7,none):=by rw [jC.out];exact if_pos (by rw [bU jQ.out lI.out HG.out.2.1 HG.out.2.2 jZ];decide)
  clear jZ lV
  go_wp2_with fail
  refine (dd 7 _).mono ?_
  rintro e W5 ⟨rfl,U⟩
  have jM:=ah U
  clear U
  go_wp2_with (first|refine au (b:=b6) (x:=zRs) (v:=zV) (y:=aq 7) (u:=zV) rfl _ _ rfl rfl rfl rfl (XB.stay (kD.out W3 HS.out) jM.out) ?_;intro W6 h6 iZ)
  refine bodyPost_ret (v:=.agg (rsc (aq 7) zV)) (results_cell_row (p:=6) (ty:=40) rfl _ _ b6 40 _ (0,0) _ rfl h6 Tryz.underlying40 rfl ct) rfl ?_
  refine ⟨none,0,0,rfl,RE.nil ucl 1 _ none 0,fun _ hk=>(bw hk).elim,⟨sp,gs,?_⟩,?_⟩
  ·exact (nE.out.stay jM.out).new (B:=w.heap.size) jK.out iZ (fun y hy=>by obtain rfl:=aa hy;have:=HB.out;omega)
  ·exact (((jJ.out.stay HS.out).stay jM.out).up [m,gb n,gm n]).trans iZ (fun y hy=>.inr (by obtain rfl:=aa hy;have:=HB.out;omega))
end Go.Proofs.YtfoleblcaloeoaaGreatDoor
