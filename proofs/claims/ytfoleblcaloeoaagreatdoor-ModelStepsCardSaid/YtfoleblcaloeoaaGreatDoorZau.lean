import Derived.Test.YtfoleblcaloeoaaGreatDoorZat
set_option maxHeartbeats 40000000
set_option maxRecDepth 20000
namespace Go.Proofs.YtfoleblcaloeoaaGreatDoor
open Go Go.RowKit
theorem stF_c (x y:Cl) {f:Nat} (h:f≠99):(kx x y f).c = y.c:=by
 unfold kx
 repeat' split
 all_goals first | rfl | omega
theorem fold_c (x:Cl):∀(F:List Nat) (y:Cl),(∀f∈F,f≠99)→(F.foldl (kx x) y).c = y.c
 | [],_,_=>rfl
 | f :: F,y,h=>by
  rw [List.foldl_cons,fold_c x F _ (fun g hg=>h g (List.mem_cons_of_mem _ hg)),stF_c x y (h f (List.mem_cons_self ..))]
variable {x:Cl}
theorem may_c (h:mg x = true) (hb:hasB x 99 = false):x.c = 0:=by
 have h1:=xm h;unfold dx at h1;simp only [Bool.and_eq_true,beq_iff_eq] at h1;rw [h1.1.1.1.1.1.1.1.2];unfold jz il;rw [fold_c x _ _ (fun f hf e=>by
  unfold hasB at hb
  have:(fld x.k).contains 99 = true:=by rw [List.contains_iff_mem];exact e ▸ hf
  rw [hb] at this;cases this)]
 rfl
variable {s:Sq} {p:Pr}
theorem xo (hR:RelP p s) (hs:Ar.Sp p.rl) {g c:Nat} (hc:1≤c) (hg:g+c≤1024) (h:∀q:Nat,g≤q→q < g+c→s.rt q≠0):Ar.mdE p.rl g c = 0:=by unfold Ar.mdE;rw [ag (by rw [Ar.mayB_iff.2 ⟨by omega,by omega,by omega,by omega⟩];decide),ag];intro hp;obtain ⟨q,a1,a2,a3⟩:=(Ar.cnt_lt hs.nm (by omega)).1 hp;obtain ⟨t,rfl⟩:∃t:Nat,q = t:=⟨q.toNat,by omega⟩;exact h t (by omega) (by omega) (by rw [hR.rt t (by omega)];exact a3)
theorem cZ (hR:RelP p s) (hs:Ar.Sp p.rl) {g c:Nat} (hc:1≤c) (hg:g+c≤1024) (h:∃q:Nat,g≤q∧q < g+c∧s.rt q = 0):Ar.mdE p.rl g c = 7:=by obtain ⟨q,h1,h2,h3⟩:=h;unfold Ar.mdE;rw [ag (by rw [Ar.mayB_iff.2 ⟨by omega,by omega,by omega,by omega⟩];decide),ah];exact (Ar.cnt_lt hs.nm (by omega)).2 ⟨q,by omega,by omega,by rw [← hR.rt q (by omega)];exact h3⟩
variable {gs:Nat→Sq} {gb gm:Nat→Nat} {E:List Nat} {L:List Ob} {vo ve:Value} {sp:Nat→Option Nat} {M:Mo} {m:Nat} {w:World}
theorem dV (h:WIn w m M sp vo ve L E gb gm gs) (kG:∀k,FW' M m vo ve L gb gm k→k < w.heap.size)
  {x:Cl} (hx:x.Ok) {n:Nat} (mK:x.p = n) {p:Pr} (hp:M.pr n = some p) (FH:p.pk < 256∧p.pm < 256∧∀q u,p.ow q = some u→u.1 < 256∧u.2 < 256) (hk:x.k = 16) {g:Nat} (hg:x.g = g) (yK:g < 1024) (v:Value) (hv:v.oneCell' = true) :
  Calls Tryz.prog 77 #[.pointer (some ⟨m,0,none⟩),.pointer (some ⟨gb n,0,none⟩),.agg (clc x v)] w fun e w'=>SpR w w' m M vo ve L E gb gm n (dc M x 0 p) e:=by
 obtain ⟨n1,n8⟩:=h.rng n p hp;have nQ:n < 9:=by omega
 have hR:dc M x 0 p = (⟨0,(ku p g).1 * 256+(ku p g).2,[]⟩,none):=by unfold dc;rw [ag (by omega),ag (by omega),ah hk,hg]
 obtain ⟨RR,lJ⟩:∃R,R = dc M x 0 p:=⟨_,rfl⟩;rw [← lJ];rw [hR] at lJ;have kH:=bk lJ;clear hR lJ;obtain ⟨W1,kP⟩:∃W1,W1 = w.alloc (.cells (clc x v) 47):=⟨_,rfl⟩;obtain ⟨W2,kJ⟩:∃W2,W2 = W1.alloc (.cells (rsc zRs zV) 40):=⟨_,rfl⟩;have c01:Chg [] w W1:=by rw [kP];exact (av [] w).alloc _
 have c12:Chg [] W1 W2:=by rw [kJ];exact (av [] W1).alloc _
 have lM:KB W2 w.heap.size x v:=bh (by rw [kP];exact ax w _ _) c12;have lW:XB W2 W1.heap.size zRs zV:=by rw [kJ];exact ax W1 _ _
 have e1:W1.heap.size = w.heap.size+1:=by rw [kP];exact af _ _
 obtain ⟨b3,lD⟩:∃y,y = w.heap.size:=⟨_,rfl⟩;obtain ⟨b6,mF⟩:∃y,y = W1.heap.size:=⟨_,rfl⟩;rw [← lD] at lM;rw [← mF] at lW;have HI:=bk (fun W (hc:Chg [] W2 W)=>h.stay ((c01.stay c12).stay hc));have mC:=bk (fun W (hc:Chg [] W2 W)=>(bh lM hc:KB W b3 x v));have lF:=bk (fun W (hc:Chg [] W2 W)=>(bf lW hc:XB W b6 zRs zV));have kS:=bk (c01.stay c12);have mH:=bk kP;have kW:=bk kJ;have HB:=bk (show b3 = w.heap.size∧b6 = w.heap.size+1 by omega);have lI:=bk lD;have lS:=bk mF;have kR:=bk kG;have HP:=bk hp;have HN:=bk (show 1≤n∧n < 9 by omega);have nT:=bk (ai hk mK);have oX:=bk hx;have HG:=bk (ai hg yK);have HPK:=bk FH;clear h kG hx mK hp c01 c12 lM lW e1 lD mF kP kJ n1 n8 nQ hk hg yK FH;go_enter Tryz.func77,Tryz.ntmps77;go_upto_region 1 with (first|refine cc rfl _ rfl rfl ?_;try rw [← mH.out]|refine ck rfl rfl ?_;try rw [← kW.out])
 try rw [← lI.out,← lS.out]
 refine vc [0,1,0,1,0,0] ?_;have hS:Chg [] W2 W2.drew:=(av [] W2).drew;generalize W2.drew = W3 at hS ⊢;have HS:=bk hS;have hI:=HI.out W3 hS;obtain ⟨hq,mU,hrel⟩:=hI.pr n p HP.out;have oR:=bk hI;have HQ:=bk hq;have pE:=bk mU;have kX:=bk hrel;obtain ⟨r0,r1,-,r3,r4,r5,r6,r7,r8,r9,-,r11,rl,-⟩:=ay (mC.out W3 hS);rw [nT.out.1] at r0;rw [nT.out.2] at r1;have gl:=bb hq;have ml:=bb hI.blk;rw [HG.out.1] at r3;have qo:=QB.ow hq HG.out.2;have gi0:(0:Int)≤(g:Int):=by omega
 have gi1:(g:Int) < 1024:=by have:=HG.out.2;omega
 obtain ⟨o,ho⟩:∃o,o = (gs n).ow g:=⟨_,rfl⟩;rw [← ho] at qo;obtain ⟨ka,kb,wO⟩:∃ka kb:Nat,(if o = true then (gs n).po g else ((gs n).ak,(gs n).am)) = (ka,kb):=⟨_,_,rfl⟩;have Et:ku p g = (ka,kb)∧ka < 256∧kb < 256:=by
  unfold ku;have h1:=kX.out.ow g HG.out.2;rw [← ho] at h1;cases mV:p.ow (g:Int) with
  | none =>
   rw [mV] at h1;rw [ag (by rw [h1];decide),kX.out.ak,kX.out.am] at wO;obtain ⟨rfl,rfl⟩:=Prod.mk.inj wO;exact ⟨rfl,HPK.out.1,HPK.out.2.1⟩
  | some u =>
   rw [mV] at h1;rw [ah (show o = true from h1),kX.out.po g HG.out.2 u mV] at wO;have h3:=HPK.out.2.2 _ _ mV;rw [wO] at h3;exact ⟨wO,h3.1,h3.2⟩
 have Cv:=aM hq HG.out.2;have rI:=xz hq;obtain rfl:RR = (⟨0,ka * 256+kb,[]⟩,none):=by rw [kH.out,Et.1]
 have HKA:=bk Et;have Gp:=bk wO;have EV:=bk (br_v (ka * 256+kb));clear ho Et wO;clear hS hI hq mU hrel;cases o with
 | true =>
  have e2:=Gp.out;rw [ah rfl] at e2;have e3:((gs n).po g).1 = ka:=by rw [e2]
  have e4:((gs n).po g).2 = kb:=by rw [e2]
  rw [e3,e4] at Cv;clear e2 e3 e4;go_wp2_with (first|refine em (ty:=45) (ad:=⟨gb n,2049+g * 2,none⟩) (v:=.agg #[.int .u8 ka,.int .u8 kb]) rfl _ rfl rfl ?_ ?_;(focus exact Cv)|refine cdA fun K U=>?_|refine bn fun K U=>?_;go_simp|refine bq ?_);refine (cR HKA.out.2.1 HKA.out.2.2 _).mono ?_;rintro e W5 ⟨rfl,kE⟩;have kV:=bk kE;clear kE;go_wp2_with (first|refine cz rfl _ rfl EV.out ?_ ?_;(focus (simp [Act.eval,Act.put];done))|refine bu (b:=b6) (x:=zRs) (v:=zV) (y:=⟨0,ka * 256+kb,[]⟩) (u:=zV) rfl _ _ rfl rfl rfl rfl (bf (lF.out W3 HS.out) kV.out) ?_;intro W6 h6 kF);refine bodyPost_ret (v:=.agg (rsc ⟨0,ka * 256+kb,[]⟩ zV)) (results_cell_row (p:=6) (ty:=40) rfl _ _ b6 40 _ (0,0) _ rfl h6 Tryz.underlying40 rfl dq) rfl ?_;refine ⟨none,0,0,rfl,RE.nil ucl 1 _ none 0,fun _ hk=>(cw hk).elim,⟨sp,gs,?_⟩,?_⟩
  ·exact (oR.out.stay kV.out).new (B:=w.heap.size) kR.out kF (fun y hy=>by obtain rfl:=aa hy;have:=HB.out;omega)
  ·exact (((kS.out.stay HS.out).stay kV.out).up [m,gb n,gm n]).trans kF (fun y hy=>.inr (by obtain rfl:=aa hy;have:=HB.out;omega))
 | false =>
  have e2:=Gp.out;rw [ag (by decide)] at e2;obtain ⟨e3,e4⟩:=Prod.mk.inj e2;rw [e3,e4] at rI;clear e2 e3 e4;go_wp2_with (first|refine em (ty:=45) (ad:=⟨gb n,4097,none⟩) (v:=.agg #[.int .u8 ka,.int .u8 kb]) rfl _ rfl rfl ?_ ?_;(focus exact rI)|refine cdA fun K U=>?_|refine bn fun K U=>?_;go_simp|refine bq ?_);refine (cR HKA.out.2.1 HKA.out.2.2 _).mono ?_;rintro e W5 ⟨rfl,kE⟩;have kV:=bk kE;clear kE;go_wp2_with (first|refine cz rfl _ rfl EV.out ?_ ?_;(focus (simp [Act.eval,Act.put];done))|refine bu (b:=b6) (x:=zRs) (v:=zV) (y:=⟨0,ka * 256+kb,[]⟩) (u:=zV) rfl _ _ rfl rfl rfl rfl (bf (lF.out W3 HS.out) kV.out) ?_;intro W6 h6 kF);refine bodyPost_ret (v:=.agg (rsc ⟨0,ka * 256+kb,[]⟩ zV)) (results_cell_row (p:=6) (ty:=40) rfl _ _ b6 40 _ (0,0) _ rfl h6 Tryz.underlying40 rfl dq) rfl ?_;refine ⟨none,0,0,rfl,RE.nil ucl 1 _ none 0,fun _ hk=>(cw hk).elim,⟨sp,gs,?_⟩,?_⟩
  ·exact (oR.out.stay kV.out).new (B:=w.heap.size) kR.out kF (fun y hy=>by obtain rfl:=aa hy;have:=HB.out;omega)
  ·exact (((kS.out.stay HS.out).stay kV.out).up [m,gb n,gm n]).trans kF (fun y hy=>.inr (by obtain rfl:=aa hy;have:=HB.out;omega))
theorem dW (h:WIn w m M sp vo ve L E gb gm gs) (kG:∀k,FW' M m vo ve L gb gm k→k < w.heap.size)
  {x:Cl} (hx:x.Ok) {n:Nat} (mK:x.p = n) {p:Pr} (hp:M.pr n = some p) (hs:Ar.Sp p.rl) (hk:x.k = 17) {g:Nat} (hg:x.g = g) (yK:g < 1024) (nG:x.c = 0) (v:Value) (hv:v.oneCell' = true) :
  Calls Tryz.prog 77 #[.pointer (some ⟨m,0,none⟩),.pointer (some ⟨gb n,0,none⟩),.agg (clc x v)] w fun e w'=>SpR w w' m M vo ve L E gb gm n (dc M x 0 p) e:=by
 obtain ⟨n1,n8⟩:=h.rng n p hp;have nQ:n < 9:=by omega
 have hR:dc M x 0 p = (if Ar.mdE p.rl g ((1:Nat):Int)≠0 then (bw 7,none) else (bw 0,none)):=by
  unfold dc;rw [ag (by omega),ag (by omega),ag (by omega),ag (by omega),ag (by omega),show max x.c 1 = ((1:Nat):Int) by omega,hg];split
  ·rfl
  ·first|(rw [ah hk,Nat.zero_min];rfl)|(rw [Nat.zero_min];rfl)|(rw [ag (by omega),ag (by omega)]) | rfl
 obtain ⟨RR,lJ⟩:∃R,R = dc M x 0 p:=⟨_,rfl⟩;rw [← lJ];rw [hR] at lJ;have kH:=bk lJ;clear hR lJ;obtain ⟨W1,kP⟩:∃W1,W1 = w.alloc (.cells (clc x v) 47):=⟨_,rfl⟩;obtain ⟨W2,kJ⟩:∃W2,W2 = W1.alloc (.cells (rsc zRs zV) 40):=⟨_,rfl⟩;have c01:Chg [] w W1:=by rw [kP];exact (av [] w).alloc _
 have c12:Chg [] W1 W2:=by rw [kJ];exact (av [] W1).alloc _
 have lM:KB W2 w.heap.size x v:=bh (by rw [kP];exact ax w _ _) c12;have lW:XB W2 W1.heap.size zRs zV:=by rw [kJ];exact ax W1 _ _
 have e1:W1.heap.size = w.heap.size+1:=by rw [kP];exact af _ _
 obtain ⟨b3,lD⟩:∃y,y = w.heap.size:=⟨_,rfl⟩;obtain ⟨b6,mF⟩:∃y,y = W1.heap.size:=⟨_,rfl⟩;rw [← lD] at lM;rw [← mF] at lW;have HI:=bk (fun W (hc:Chg [] W2 W)=>h.stay ((c01.stay c12).stay hc));have mC:=bk (fun W (hc:Chg [] W2 W)=>(bh lM hc:KB W b3 x v));have lF:=bk (fun W (hc:Chg [] W2 W)=>(bf lW hc:XB W b6 zRs zV));have kS:=bk (c01.stay c12);have mH:=bk kP;have kW:=bk kJ;have HB:=bk (show b3 = w.heap.size∧b6 = w.heap.size+1 by omega);have lI:=bk lD;have lS:=bk mF;have kR:=bk kG;have HP:=bk hp;have HN:=bk (show 1≤n∧n < 9 by omega);have nT:=bk (ai hk mK);have oX:=bk hx;have HG:=bk (ai hg (show 1≤(1:Nat)∧g+1≤1024 by omega));have mS:=bk hs;clear h kG hx mK hp c01 c12 lM lW e1 lD mF kP kJ n1 n8 nQ hk hg hs yK nG;go_enter Tryz.func77,Tryz.ntmps77;go_upto_region 1 with (first|refine cc rfl _ rfl rfl ?_;try rw [← mH.out]|refine ck rfl rfl ?_;try rw [← kW.out])
 try rw [← lI.out,← lS.out]
 refine vc [0,1,0,1,0,0] ?_;have hS:Chg [] W2 W2.drew:=(av [] W2).drew;generalize W2.drew = W3 at hS ⊢;have HS:=bk hS;have hI:=HI.out W3 hS;obtain ⟨hq,mU,hrel⟩:=hI.pr n p HP.out;have oR:=bk hI;have HQ:=bk hq;have pE:=bk mU;have kX:=bk hrel;obtain ⟨r0,r1,-,r3,r4,r5,r6,r7,r8,r9,-,r11,rl,-⟩:=ay (mC.out W3 hS);rw [nT.out.1] at r0;rw [nT.out.2] at r1;have gl:=bb hq;have ml:=bb hI.blk;rw [HG.out.1] at r3;have nF:=bk (jm hq (p:=g) (c:=1) HG.out.2.2);clear hS hI hq mU hrel;go_wp2_with (first|refine cdA fun K U=>?_|refine bn fun K U=>?_;go_simp|refine bq ?_);refine nF.out.mono ?_;rintro e W4 ⟨⟨rfl,kY⟩ | ⟨rfl,lR⟩,rfl⟩
 ·obtain rfl:RR = (bw 0,none):=by rw [kH.out];exact ag (fun hn=>hn (xo kX.out mS.out HG.out.2.1 HG.out.2.2 kY))
  clear kY nF;go_wp2_with fail;refine (ei 0 _).mono ?_;rintro e W5 ⟨rfl,kE⟩;have kV:=bk kE;clear kE;go_wp2_with (first|refine bu (b:=b6) (x:=zRs) (v:=zV) (y:=bw 0) (u:=zV) rfl _ _ rfl rfl rfl rfl (bf (lF.out W3 HS.out) kV.out) ?_;intro W6 h6 kF);refine bodyPost_ret (v:=.agg (rsc (bw 0) zV)) (results_cell_row (p:=6) (ty:=40) rfl _ _ b6 40 _ (0,0) _ rfl h6 Tryz.underlying40 rfl dq) rfl ?_;refine ⟨none,0,0,rfl,RE.nil ucl 1 _ none 0,fun _ hk=>(cw hk).elim,⟨sp,gs,?_⟩,?_⟩
  ·exact (oR.out.stay kV.out).new (B:=w.heap.size) kR.out kF (fun y hy=>by obtain rfl:=aa hy;have:=HB.out;omega)
  ·exact (((kS.out.stay HS.out).stay kV.out).up [m,gb n,gm n]).trans kF (fun y hy=>.inr (by obtain rfl:=aa hy;have:=HB.out;omega))
 ·obtain rfl:RR = (bw 7,none):=by rw [kH.out];exact ah (by rw [cZ kX.out mS.out HG.out.2.1 HG.out.2.2 lR];decide)
  clear lR nF;go_wp2_with fail;refine (ei 7 _).mono ?_;rintro e W5 ⟨rfl,kE⟩;have kV:=bk kE;clear kE;go_wp2_with (first|refine bu (b:=b6) (x:=zRs) (v:=zV) (y:=bw 7) (u:=zV) rfl _ _ rfl rfl rfl rfl (bf (lF.out W3 HS.out) kV.out) ?_;intro W6 h6 kF);refine bodyPost_ret (v:=.agg (rsc (bw 7) zV)) (results_cell_row (p:=6) (ty:=40) rfl _ _ b6 40 _ (0,0) _ rfl h6 Tryz.underlying40 rfl dq) rfl ?_;refine ⟨none,0,0,rfl,RE.nil ucl 1 _ none 0,fun _ hk=>(cw hk).elim,⟨sp,gs,?_⟩,?_⟩
  ·exact (oR.out.stay kV.out).new (B:=w.heap.size) kR.out kF (fun y hy=>by obtain rfl:=aa hy;have:=HB.out;omega)
  ·exact (((kS.out.stay HS.out).stay kV.out).up [m,gb n,gm n]).trans kF (fun y hy=>.inr (by obtain rfl:=aa hy;have:=HB.out;omega))
theorem gE (h:WIn w m M sp vo ve L E gb gm gs) (kG:∀k,FW' M m vo ve L gb gm k→k < w.heap.size)
  {x:Cl} (hx:x.Ok) {n:Nat} (mK:x.p = n) {p:Pr} (hp:M.pr n = some p) (hs:Ar.Sp p.rl) (hk:x.k = 6) {g:Nat} (hg:x.g = g) {c:Nat} (hc:x.c = c) (kO:1≤c) (Db:g+c≤1024) (v:Value) (hv:v.oneCell' = true) :
  Calls Tryz.prog 77 #[.pointer (some ⟨m,0,none⟩),.pointer (some ⟨gb n,0,none⟩),.agg (clc x v)] w fun e w'=>SpR w w' m M vo ve L E gb gm n (dc M x 0 p) e:=by
 obtain ⟨n1,n8⟩:=h.rng n p hp;have nQ:n < 9:=by omega
 have hR:dc M x 0 p = (if Ar.mdE p.rl g ((c:Nat):Int)≠0 then (bw 7,none) else (bw 0,none)):=by
  unfold dc;rw [ag (by omega),ag (by omega),ag (by omega),ag (by omega),ag (by omega),show max x.c 1 = ((c:Nat):Int) by omega,hg];split
  ·rfl
  ·first|(rw [ah hk,Nat.zero_min];rfl)|(rw [Nat.zero_min];rfl)|(rw [ag (by omega),ag (by omega)]) | rfl
 obtain ⟨RR,lJ⟩:∃R,R = dc M x 0 p:=⟨_,rfl⟩;rw [← lJ];rw [hR] at lJ;have kH:=bk lJ;clear hR lJ;obtain ⟨W1,kP⟩:∃W1,W1 = w.alloc (.cells (clc x v) 47):=⟨_,rfl⟩;obtain ⟨W2,kJ⟩:∃W2,W2 = W1.alloc (.cells (rsc zRs zV) 40):=⟨_,rfl⟩;have c01:Chg [] w W1:=by rw [kP];exact (av [] w).alloc _
 have c12:Chg [] W1 W2:=by rw [kJ];exact (av [] W1).alloc _
 have lM:KB W2 w.heap.size x v:=bh (by rw [kP];exact ax w _ _) c12;have lW:XB W2 W1.heap.size zRs zV:=by rw [kJ];exact ax W1 _ _
 have e1:W1.heap.size = w.heap.size+1:=by rw [kP];exact af _ _
 obtain ⟨b3,lD⟩:∃y,y = w.heap.size:=⟨_,rfl⟩;obtain ⟨b6,mF⟩:∃y,y = W1.heap.size:=⟨_,rfl⟩;rw [← lD] at lM;rw [← mF] at lW;have HI:=bk (fun W (hc:Chg [] W2 W)=>h.stay ((c01.stay c12).stay hc));have mC:=bk (fun W (hc:Chg [] W2 W)=>(bh lM hc:KB W b3 x v));have lF:=bk (fun W (hc:Chg [] W2 W)=>(bf lW hc:XB W b6 zRs zV));have kS:=bk (c01.stay c12);have mH:=bk kP;have kW:=bk kJ;have HB:=bk (show b3 = w.heap.size∧b6 = w.heap.size+1 by omega);have lI:=bk lD;have lS:=bk mF;have kR:=bk kG;have HP:=bk hp;have HN:=bk (show 1≤n∧n < 9 by omega);have nT:=bk (ai hk mK);have oX:=bk hx;have HG:=bk (ai hg (show 1≤(c:Nat)∧g+c≤1024 by omega));have mS:=bk hs;have pX:=bk hc;clear h kG hx mK hp c01 c12 lM lW e1 lD mF kP kJ n1 n8 nQ hk hg hs hc kO Db;go_enter Tryz.func77,Tryz.ntmps77;go_upto_region 1 with (first|refine cc rfl _ rfl rfl ?_;try rw [← mH.out]|refine ck rfl rfl ?_;try rw [← kW.out])
 try rw [← lI.out,← lS.out]
 refine vc [0,1,0,1,0,0] ?_;have hS:Chg [] W2 W2.drew:=(av [] W2).drew;generalize W2.drew = W3 at hS ⊢;have HS:=bk hS;have hI:=HI.out W3 hS;obtain ⟨hq,mU,hrel⟩:=hI.pr n p HP.out;have oR:=bk hI;have HQ:=bk hq;have pE:=bk mU;have kX:=bk hrel;obtain ⟨r0,r1,-,r3,r4,r5,r6,r7,r8,r9,-,r11,rl,-⟩:=ay (mC.out W3 hS);rw [nT.out.1] at r0;rw [nT.out.2] at r1;have gl:=bb hq;have ml:=bb hI.blk;rw [HG.out.1] at r3;rw [pX.out] at r4;have nF:=bk (jm hq (p:=g) (c:=c) HG.out.2.2);clear hS hI hq mU hrel;go_wp2_with (first|refine cdA fun K U=>?_|refine bn fun K U=>?_;go_simp|refine bq ?_);refine nF.out.mono ?_;rintro e W4 ⟨⟨rfl,kY⟩ | ⟨rfl,lR⟩,rfl⟩
 ·obtain rfl:RR = (bw 0,none):=by rw [kH.out];exact ag (fun hn=>hn (xo kX.out mS.out HG.out.2.1 HG.out.2.2 kY))
  clear kY nF;go_wp2_with fail;refine (ei 0 _).mono ?_;rintro e W5 ⟨rfl,kE⟩;have kV:=bk kE;clear kE;go_wp2_with (first|refine bu (b:=b6) (x:=zRs) (v:=zV) (y:=bw 0) (u:=zV) rfl _ _ rfl rfl rfl rfl (bf (lF.out W3 HS.out) kV.out) ?_;intro W6 h6 kF);refine bodyPost_ret (v:=.agg (rsc (bw 0) zV)) (results_cell_row (p:=6) (ty:=40) rfl _ _ b6 40 _ (0,0) _ rfl h6 Tryz.underlying40 rfl dq) rfl ?_;refine ⟨none,0,0,rfl,RE.nil ucl 1 _ none 0,fun _ hk=>(cw hk).elim,⟨sp,gs,?_⟩,?_⟩
  ·exact (oR.out.stay kV.out).new (B:=w.heap.size) kR.out kF (fun y hy=>by obtain rfl:=aa hy;have:=HB.out;omega)
  ·exact (((kS.out.stay HS.out).stay kV.out).up [m,gb n,gm n]).trans kF (fun y hy=>.inr (by obtain rfl:=aa hy;have:=HB.out;omega))
 ·obtain rfl:RR = (bw 7,none):=by rw [kH.out];exact ah (by rw [cZ kX.out mS.out HG.out.2.1 HG.out.2.2 lR];decide)
  clear lR nF;go_wp2_with fail;refine (ei 7 _).mono ?_;rintro e W5 ⟨rfl,kE⟩;have kV:=bk kE;clear kE;go_wp2_with (first|refine bu (b:=b6) (x:=zRs) (v:=zV) (y:=bw 7) (u:=zV) rfl _ _ rfl rfl rfl rfl (bf (lF.out W3 HS.out) kV.out) ?_;intro W6 h6 kF);refine bodyPost_ret (v:=.agg (rsc (bw 7) zV)) (results_cell_row (p:=6) (ty:=40) rfl _ _ b6 40 _ (0,0) _ rfl h6 Tryz.underlying40 rfl dq) rfl ?_;refine ⟨none,0,0,rfl,RE.nil ucl 1 _ none 0,fun _ hk=>(cw hk).elim,⟨sp,gs,?_⟩,?_⟩
  ·exact (oR.out.stay kV.out).new (B:=w.heap.size) kR.out kF (fun y hy=>by obtain rfl:=aa hy;have:=HB.out;omega)
  ·exact (((kS.out.stay HS.out).stay kV.out).up [m,gb n,gm n]).trans kF (fun y hy=>.inr (by obtain rfl:=aa hy;have:=HB.out;omega))
theorem gF (h:WIn w m M sp vo ve L E gb gm gs) (kG:∀k,FW' M m vo ve L gb gm k→k < w.heap.size)
  {x:Cl} (hx:x.Ok) {n:Nat} (mK:x.p = n) {p:Pr} (hp:M.pr n = some p) (hs:Ar.Sp p.rl) (hk:x.k = 7) {g:Nat} (hg:x.g = g) {c:Nat} (hc:x.c = c) (kO:1≤c) (Db:g+c≤1024) (v:Value) (hv:v.oneCell' = true) :
  Calls Tryz.prog 77 #[.pointer (some ⟨m,0,none⟩),.pointer (some ⟨gb n,0,none⟩),.agg (clc x v)] w fun e w'=>SpR w w' m M vo ve L E gb gm n (dc M x 0 p) e:=by
 obtain ⟨n1,n8⟩:=h.rng n p hp;have nQ:n < 9:=by omega
 have hR:dc M x 0 p = (if Ar.mdE p.rl g ((c:Nat):Int)≠0 then (bw 7,none) else (bw 0,none)):=by
  unfold dc;rw [ag (by omega),ag (by omega),ag (by omega),ag (by omega),ag (by omega),show max x.c 1 = ((c:Nat):Int) by omega,hg];split
  ·rfl
  ·first|(rw [ah hk,Nat.zero_min];rfl)|(rw [Nat.zero_min];rfl)|(rw [ag (by omega),ag (by omega)]) | rfl
 obtain ⟨RR,lJ⟩:∃R,R = dc M x 0 p:=⟨_,rfl⟩;rw [← lJ];rw [hR] at lJ;have kH:=bk lJ;clear hR lJ;obtain ⟨W1,kP⟩:∃W1,W1 = w.alloc (.cells (clc x v) 47):=⟨_,rfl⟩;obtain ⟨W2,kJ⟩:∃W2,W2 = W1.alloc (.cells (rsc zRs zV) 40):=⟨_,rfl⟩;have c01:Chg [] w W1:=by rw [kP];exact (av [] w).alloc _
 have c12:Chg [] W1 W2:=by rw [kJ];exact (av [] W1).alloc _
 have lM:KB W2 w.heap.size x v:=bh (by rw [kP];exact ax w _ _) c12;have lW:XB W2 W1.heap.size zRs zV:=by rw [kJ];exact ax W1 _ _
 have e1:W1.heap.size = w.heap.size+1:=by rw [kP];exact af _ _
 obtain ⟨b3,lD⟩:∃y,y = w.heap.size:=⟨_,rfl⟩;obtain ⟨b6,mF⟩:∃y,y = W1.heap.size:=⟨_,rfl⟩;rw [← lD] at lM;rw [← mF] at lW;have HI:=bk (fun W (hc:Chg [] W2 W)=>h.stay ((c01.stay c12).stay hc));have mC:=bk (fun W (hc:Chg [] W2 W)=>(bh lM hc:KB W b3 x v));have lF:=bk (fun W (hc:Chg [] W2 W)=>(bf lW hc:XB W b6 zRs zV));have kS:=bk (c01.stay c12);have mH:=bk kP;have kW:=bk kJ;have HB:=bk (show b3 = w.heap.size∧b6 = w.heap.size+1 by omega);have lI:=bk lD;have lS:=bk mF;have kR:=bk kG;have HP:=bk hp;have HN:=bk (show 1≤n∧n < 9 by omega);have nT:=bk (ai hk mK);have oX:=bk hx;have HG:=bk (ai hg (show 1≤(c:Nat)∧g+c≤1024 by omega));have mS:=bk hs;have pX:=bk hc;clear h kG hx mK hp c01 c12 lM lW e1 lD mF kP kJ n1 n8 nQ hk hg hs hc kO Db;go_enter Tryz.func77,Tryz.ntmps77;go_upto_region 1 with (first|refine cc rfl _ rfl rfl ?_;try rw [← mH.out]|refine ck rfl rfl ?_;try rw [← kW.out])
 try rw [← lI.out,← lS.out]
 refine vc [0,1,0,1,0,0] ?_;have hS:Chg [] W2 W2.drew:=(av [] W2).drew;generalize W2.drew = W3 at hS ⊢;have HS:=bk hS;have hI:=HI.out W3 hS;obtain ⟨hq,mU,hrel⟩:=hI.pr n p HP.out;have oR:=bk hI;have HQ:=bk hq;have pE:=bk mU;have kX:=bk hrel;obtain ⟨r0,r1,-,r3,r4,r5,r6,r7,r8,r9,-,r11,rl,-⟩:=ay (mC.out W3 hS);rw [nT.out.1] at r0;rw [nT.out.2] at r1;have gl:=bb hq;have ml:=bb hI.blk;rw [HG.out.1] at r3;rw [pX.out] at r4;have nF:=bk (jm hq (p:=g) (c:=c) HG.out.2.2);clear hS hI hq mU hrel;go_wp2_with (first|refine cdA fun K U=>?_|refine bn fun K U=>?_;go_simp|refine bq ?_);refine nF.out.mono ?_;rintro e W4 ⟨⟨rfl,kY⟩ | ⟨rfl,lR⟩,rfl⟩
 ·obtain rfl:RR = (bw 0,none):=by rw [kH.out];exact ag (fun hn=>hn (xo kX.out mS.out HG.out.2.1 HG.out.2.2 kY))
  clear kY nF;go_wp2_with fail;refine (ei 0 _).mono ?_;rintro e W5 ⟨rfl,kE⟩;have kV:=bk kE;clear kE;go_wp2_with (first|refine bu (b:=b6) (x:=zRs) (v:=zV) (y:=bw 0) (u:=zV) rfl _ _ rfl rfl rfl rfl (bf (lF.out W3 HS.out) kV.out) ?_;intro W6 h6 kF);refine bodyPost_ret (v:=.agg (rsc (bw 0) zV)) (results_cell_row (p:=6) (ty:=40) rfl _ _ b6 40 _ (0,0) _ rfl h6 Tryz.underlying40 rfl dq) rfl ?_;refine ⟨none,0,0,rfl,RE.nil ucl 1 _ none 0,fun _ hk=>(cw hk).elim,⟨sp,gs,?_⟩,?_⟩
  ·exact (oR.out.stay kV.out).new (B:=w.heap.size) kR.out kF (fun y hy=>by obtain rfl:=aa hy;have:=HB.out;omega)
  ·exact (((kS.out.stay HS.out).stay kV.out).up [m,gb n,gm n]).trans kF (fun y hy=>.inr (by obtain rfl:=aa hy;have:=HB.out;omega))
 ·obtain rfl:RR = (bw 7,none):=by rw [kH.out];exact ah (by rw [cZ kX.out mS.out HG.out.2.1 HG.out.2.2 lR];decide)
  clear lR nF;go_wp2_with fail;refine (ei 7 _).mono ?_;rintro e W5 ⟨rfl,kE⟩;have kV:=bk kE;clear kE;go_wp2_with (first|refine bu (b:=b6) (x:=zRs) (v:=zV) (y:=bw 7) (u:=zV) rfl _ _ rfl rfl rfl rfl (bf (lF.out W3 HS.out) kV.out) ?_;intro W6 h6 kF);refine bodyPost_ret (v:=.agg (rsc (bw 7) zV)) (results_cell_row (p:=6) (ty:=40) rfl _ _ b6 40 _ (0,0) _ rfl h6 Tryz.underlying40 rfl dq) rfl ?_;refine ⟨none,0,0,rfl,RE.nil ucl 1 _ none 0,fun _ hk=>(cw hk).elim,⟨sp,gs,?_⟩,?_⟩
  ·exact (oR.out.stay kV.out).new (B:=w.heap.size) kR.out kF (fun y hy=>by obtain rfl:=aa hy;have:=HB.out;omega)
  ·exact (((kS.out.stay HS.out).stay kV.out).up [m,gb n,gm n]).trans kF (fun y hy=>.inr (by obtain rfl:=aa hy;have:=HB.out;omega))
theorem dX (h:WIn w m M sp vo ve L E gb gm gs) (kG:∀k,FW' M m vo ve L gb gm k→k < w.heap.size)
  {x:Cl} (hx:x.Ok) {n:Nat} (mK:x.p = n) {p:Pr} (hp:M.pr n = some p) (hs:Ar.Sp p.rl) (hk:x.k = 18) {g:Nat} (hg:x.g = g) {c:Nat} (hc:x.c = c) (kO:1≤c) (Db:g+c≤1024) (v:Value) (hv:v.oneCell' = true) :
  Calls Tryz.prog 77 #[.pointer (some ⟨m,0,none⟩),.pointer (some ⟨gb n,0,none⟩),.agg (clc x v)] w fun e w'=>SpR w w' m M vo ve L E gb gm n (dc M x 0 p) e:=by
 obtain ⟨n1,n8⟩:=h.rng n p hp;have nQ:n < 9:=by omega
 have hR:dc M x 0 p = (if Ar.mdE p.rl g ((c:Nat):Int)≠0 then (bw 7,none) else (bw 0,none)):=by
  unfold dc;rw [ag (by omega),ag (by omega),ag (by omega),ag (by omega),ag (by omega),show max x.c 1 = ((c:Nat):Int) by omega,hg];split
  ·rfl
  ·first|(rw [ah hk,Nat.zero_min];rfl)|(rw [Nat.zero_min];rfl)|(rw [ag (by omega),ag (by omega)]) | rfl
 obtain ⟨RR,lJ⟩:∃R,R = dc M x 0 p:=⟨_,rfl⟩;rw [← lJ];rw [hR] at lJ;have kH:=bk lJ;clear hR lJ;obtain ⟨W1,kP⟩:∃W1,W1 = w.alloc (.cells (clc x v) 47):=⟨_,rfl⟩;obtain ⟨W2,kJ⟩:∃W2,W2 = W1.alloc (.cells (rsc zRs zV) 40):=⟨_,rfl⟩;have c01:Chg [] w W1:=by rw [kP];exact (av [] w).alloc _
 have c12:Chg [] W1 W2:=by rw [kJ];exact (av [] W1).alloc _
 have lM:KB W2 w.heap.size x v:=bh (by rw [kP];exact ax w _ _) c12;have lW:XB W2 W1.heap.size zRs zV:=by rw [kJ];exact ax W1 _ _
 have e1:W1.heap.size = w.heap.size+1:=by rw [kP];exact af _ _
 obtain ⟨b3,lD⟩:∃y,y = w.heap.size:=⟨_,rfl⟩;obtain ⟨b6,mF⟩:∃y,y = W1.heap.size:=⟨_,rfl⟩;rw [← lD] at lM;rw [← mF] at lW;have HI:=bk (fun W (hc:Chg [] W2 W)=>h.stay ((c01.stay c12).stay hc));have mC:=bk (fun W (hc:Chg [] W2 W)=>(bh lM hc:KB W b3 x v));have lF:=bk (fun W (hc:Chg [] W2 W)=>(bf lW hc:XB W b6 zRs zV));have kS:=bk (c01.stay c12);have mH:=bk kP;have kW:=bk kJ;have HB:=bk (show b3 = w.heap.size∧b6 = w.heap.size+1 by omega);have lI:=bk lD;have lS:=bk mF;have kR:=bk kG;have HP:=bk hp;have HN:=bk (show 1≤n∧n < 9 by omega);have nT:=bk (ai hk mK);have oX:=bk hx;have HG:=bk (ai hg (show 1≤(c:Nat)∧g+c≤1024 by omega));have mS:=bk hs;have pX:=bk hc;clear h kG hx mK hp c01 c12 lM lW e1 lD mF kP kJ n1 n8 nQ hk hg hs hc kO Db;go_enter Tryz.func77,Tryz.ntmps77;go_upto_region 1 with (first|refine cc rfl _ rfl rfl ?_;try rw [← mH.out]|refine ck rfl rfl ?_;try rw [← kW.out])
 try rw [← lI.out,← lS.out]
 refine vc [0,1,0,1,0,0] ?_;have hS:Chg [] W2 W2.drew:=(av [] W2).drew;generalize W2.drew = W3 at hS ⊢;have HS:=bk hS;have hI:=HI.out W3 hS;obtain ⟨hq,mU,hrel⟩:=hI.pr n p HP.out;have oR:=bk hI;have HQ:=bk hq;have pE:=bk mU;have kX:=bk hrel;obtain ⟨r0,r1,-,r3,r4,r5,r6,r7,r8,r9,-,r11,rl,-⟩:=ay (mC.out W3 hS);rw [nT.out.1] at r0;rw [nT.out.2] at r1;have gl:=bb hq;have ml:=bb hI.blk;rw [HG.out.1] at r3;rw [pX.out] at r4;have nF:=bk (jm hq (p:=g) (c:=c) HG.out.2.2);clear hS hI hq mU hrel;go_wp2_with (first|refine cdA fun K U=>?_|refine bn fun K U=>?_;go_simp|refine bq ?_);refine nF.out.mono ?_;rintro e W4 ⟨⟨rfl,kY⟩ | ⟨rfl,lR⟩,rfl⟩
 ·obtain rfl:RR = (bw 0,none):=by rw [kH.out];exact ag (fun hn=>hn (xo kX.out mS.out HG.out.2.1 HG.out.2.2 kY))
  clear kY nF;go_wp2_with fail;refine (ei 0 _).mono ?_;rintro e W5 ⟨rfl,kE⟩;have kV:=bk kE;clear kE;go_wp2_with (first|refine bu (b:=b6) (x:=zRs) (v:=zV) (y:=bw 0) (u:=zV) rfl _ _ rfl rfl rfl rfl (bf (lF.out W3 HS.out) kV.out) ?_;intro W6 h6 kF);refine bodyPost_ret (v:=.agg (rsc (bw 0) zV)) (results_cell_row (p:=6) (ty:=40) rfl _ _ b6 40 _ (0,0) _ rfl h6 Tryz.underlying40 rfl dq) rfl ?_;refine ⟨none,0,0,rfl,RE.nil ucl 1 _ none 0,fun _ hk=>(cw hk).elim,⟨sp,gs,?_⟩,?_⟩
  ·exact (oR.out.stay kV.out).new (B:=w.heap.size) kR.out kF (fun y hy=>by obtain rfl:=aa hy;have:=HB.out;omega)
  ·exact (((kS.out.stay HS.out).stay kV.out).up [m,gb n,gm n]).trans kF (fun y hy=>.inr (by obtain rfl:=aa hy;have:=HB.out;omega))
 ·obtain rfl:RR = (bw 7,none):=by rw [kH.out];exact ah (by rw [cZ kX.out mS.out HG.out.2.1 HG.out.2.2 lR];decide)
  clear lR nF;go_wp2_with fail;refine (ei 7 _).mono ?_;rintro e W5 ⟨rfl,kE⟩;have kV:=bk kE;clear kE;go_wp2_with (first|refine bu (b:=b6) (x:=zRs) (v:=zV) (y:=bw 7) (u:=zV) rfl _ _ rfl rfl rfl rfl (bf (lF.out W3 HS.out) kV.out) ?_;intro W6 h6 kF);refine bodyPost_ret (v:=.agg (rsc (bw 7) zV)) (results_cell_row (p:=6) (ty:=40) rfl _ _ b6 40 _ (0,0) _ rfl h6 Tryz.underlying40 rfl dq) rfl ?_;refine ⟨none,0,0,rfl,RE.nil ucl 1 _ none 0,fun _ hk=>(cw hk).elim,⟨sp,gs,?_⟩,?_⟩
  ·exact (oR.out.stay kV.out).new (B:=w.heap.size) kR.out kF (fun y hy=>by obtain rfl:=aa hy;have:=HB.out;omega)
  ·exact (((kS.out.stay HS.out).stay kV.out).up [m,gb n,gm n]).trans kF (fun y hy=>.inr (by obtain rfl:=aa hy;have:=HB.out;omega))
variable {Q:Exit→Act→World→Prop} {K:Act→World→Prop} {o:Oper}
theorem ko {a:Act} (s x:Operand)
  (ho:o.op = .call { callee:=.builtin .append,args:=#[s,x],argTypes:=#[38,38] }) (v y:Value) (hs:a.eval s = v) (hx:a.eval x = y) {l m:List Nat} (hv:SB w v l) (hy:RB w y m) (kQ:l.length+m.length≤1000000)
  (h:∀A n c w',Hid (n = (l ++ m).length)→SB w' (.slice A n c) (l ++ m)→Chg (own v) w w'→Grow w v (.slice A n c)→K (a.put o.dst (.slice A n c)) w'):o.wp Tryz.prog a w K Q:=by
 obtain ⟨i5,hi,hz,tC,tP⟩:=info_parts info5b;refine mt s x 38 ho 5 Tryz.underlying38 hi hz tC tP rfl hs hv hx hy (wv m) (by unfold maxLen;omega) (by omega) fun v' w' h2 h3 h4=>?_;have pY:SB w' v' (l ++ m):=by
  unfold SB SE;rw [List.length_append,lc];exact h2
 obtain ⟨A,c,rfl⟩:=pY.form;exact h A _ c w' rfl pY h3 (pq h4)
def jj (s:Sq) (A t:Nat):List Nat:=(List.range t).map fun j=>(s.by_ ((A+j:Nat):Int)).getD 0
theorem vm (s:Sq) (A t:Nat):jj s A (t+1) = jj s A t ++ [(s.by_ ((A+t:Nat):Int)).getD 0]:=by unfold jj;rw [List.range_succ,List.map_append];rfl
theorem xi (s:Sq) (A t:Nat):(jj s A t).length = t:=by unfold jj;simp
variable {A:Nat}
theorem aC (h:RelP p s) {S:Nat} (hA:A < 262144) (hS:A % 256+S≤256) (hl:(jl p ((A / 256:Nat):Int)).length = 256):jj s A S = ((jl p ((A / 256:Nat):Int)).drop (A % 256)).take S:=by
 refine List.ext_getElem? fun i=>?_;unfold jj;by_cases hi:i < S
 ·rw [List.getElem?_map,List.getElem?_range hi,List.getElem?_take,ah hi,List.getElem?_drop];have h1:=h.by_ ((A+i:Nat):Int) (by omega) (by omega);have e1:((A+i:Nat):Int) / 256 = ((A / 256:Nat):Int):=by omega
  have e2:(((A+i:Nat):Int) % 256).toNat = A % 256+i:=by omega
  rw [e1,e2,List.getD_eq_getElem?_getD] at h1;show some ((s.by_ ((A+i:Nat):Int)).getD 0) = _;rw [h1,List.getElem?_eq_getElem (by omega)];rfl
 ·rw [List.getElem?_eq_none (by simp;omega),List.getElem?_eq_none (by rw [List.length_take];omega)]
theorem cT {Pp:Nat} (h:A < 262144) (hp:Pp = A / 256):wrap64 ((A:Int).tdiv 256) = (Pp:Int)∧IntKind.i64.wrap ((A:Int).tdiv 256) = (Pp:Int):=by
 rw [Int.tdiv_eq_ediv_of_nonneg (by omega)];have e:(A:Int) / 256 = (Pp:Int):=by omega
 rw [e];exact ⟨by unfold wrap64;omega,by rw [IntKind.wrap_i64];omega⟩
theorem zero5:∀w,(zeroValue 5).run Tryz.prog w = .ok (.int .u8 0) w:=by
 have h:(Tryz.prog.info? 5).map (fun i=>(i.zero,i.size)) = some (some (.int .u8 0),1):=by kernel_rfl
 exact (zero_of_info h).1
theorem gG (h:WIn w m M sp vo ve L E gb gm gs) (kG:∀k,FW' M m vo ve L gb gm k→k < w.heap.size)
  {x:Cl} (hx:x.Ok) {n:Nat} (mK:x.p = n) {p:Pr} (hp:M.pr n = some p) (hs:Ar.Sp p.rl) (kQ:∀q:Int,(jl p q).length = 256) (hk:x.k = 8) {A S:Nat} (ha:x.a = A) (hS:x.s = S) (ha8:A < 262144) (mE:1≤S) (haS:A % 256+S≤256) (v:Value) (hv:v.oneCell' = true) :
  Calls Tryz.prog 77 #[.pointer (some ⟨m,0,none⟩),.pointer (some ⟨gb n,0,none⟩),.agg (clc x v)] w fun e w'=>SpR w w' m M vo ve L E gb gm n (dc M x 0 p) e:=by
 obtain ⟨n1,n8⟩:=h.rng n p hp;have nQ:n < 9:=by omega
 have hR:dc M x 0 p = (if Ar.rt p.rl ((A / 256:Nat):Int) = 0 then bw 7 else if Ar.rt p.rl ((A / 256:Nat):Int) % 2 = 0 then bw 190 else ⟨0,0,((jl p ((A / 256:Nat):Int)).drop (A % 256)).take S⟩,none):=by
  have e1:x.a / 256 = ((A / 256:Nat):Int):=by omega
  have e2:(x.a % 256).toNat = A % 256:=by omega
  have e3:x.s.toNat = S:=by omega
  unfold dc;rw [ag (by omega),ag (by omega),ag (by omega),ag (by omega),ah (by omega)];unfold dt;simp only [e1,e2,e3];split
  ·rfl
  ·first|(split <;> rfl)|(rw [ah hk];split <;> rfl)
 obtain ⟨RR,lJ⟩:∃R,R = dc M x 0 p:=⟨_,rfl⟩;rw [← lJ];rw [hR] at lJ;have kH:=bk lJ;clear hR lJ;obtain ⟨W1,kP⟩:∃W1,W1 = w.alloc (.cells (clc x v) 47):=⟨_,rfl⟩;obtain ⟨W2,kJ⟩:∃W2,W2 = W1.alloc (.cells (rsc zRs zV) 40):=⟨_,rfl⟩;have c01:Chg [] w W1:=by rw [kP];exact (av [] w).alloc _
 have c12:Chg [] W1 W2:=by rw [kJ];exact (av [] W1).alloc _
 have lM:KB W2 w.heap.size x v:=bh (by rw [kP];exact ax w _ _) c12;have lW:XB W2 W1.heap.size zRs zV:=by rw [kJ];exact ax W1 _ _
 have e1:W1.heap.size = w.heap.size+1:=by rw [kP];exact af _ _
 obtain ⟨b3,lD⟩:∃y,y = w.heap.size:=⟨_,rfl⟩;obtain ⟨b6,mF⟩:∃y,y = W1.heap.size:=⟨_,rfl⟩;rw [← lD] at lM;rw [← mF] at lW;have HI:=bk (fun W (hc:Chg [] W2 W)=>h.stay ((c01.stay c12).stay hc));have mC:=bk (fun W (hc:Chg [] W2 W)=>(bh lM hc:KB W b3 x v));have lF:=bk (fun W (hc:Chg [] W2 W)=>(bf lW hc:XB W b6 zRs zV));have kS:=bk (c01.stay c12);have mH:=bk kP;have kW:=bk kJ;have HB:=bk (show b3 = w.heap.size∧b6 = w.heap.size+1 by omega);have lI:=bk lD;have lS:=bk mF;have kR:=bk kG;have HP:=bk hp;have HN:=bk (show 1≤n∧n < 9 by omega);have nT:=bk (ai hk mK);have oX:=bk hx;have HA:=bk (show x.a = (A:Int)∧x.s = (S:Int)∧A < 262144∧1≤S∧A % 256+S≤256 from ⟨ha,hS,ha8,mE,haS⟩);have mS:=bk hs;have lX:=bk kQ;clear h kG hx mK hp c01 c12 lM lW e1 lD mF kP kJ n1 n8 nQ hk ha hS ha8 mE haS hs kQ;go_enter Tryz.func77,Tryz.ntmps77;go_upto_region 1 with (first|refine cc rfl _ rfl rfl ?_;try rw [← mH.out]|refine ck rfl rfl ?_;try rw [← kW.out])
 try rw [← lI.out,← lS.out]
 refine vc [0,1,0,1,0,0] ?_;have hS:Chg [] W2 W2.drew:=(av [] W2).drew;generalize W2.drew = W3 at hS ⊢;have HS:=bk hS;have hI:=HI.out W3 hS;obtain ⟨hq,mU,hrel⟩:=hI.pr n p HP.out;have oR:=bk hI;have HQ:=bk hq;have pE:=bk mU;have kX:=bk hrel;obtain ⟨r0,r1,-,r3,r4,r5,r6,r7,r8,r9,-,r11,rl,-⟩:=ay (mC.out W3 hS);rw [nT.out.1] at r0;rw [nT.out.2] at r1;have gl:=bb hq;have ml:=bb hI.blk;obtain ⟨az,Ed⟩:∃z:Int,z = x.a:=⟨_,rfl⟩;rw [← Ed] at r5;have vR:=bk (show az = (A:Int) by rw [Ed];exact HA.out.1);clear Ed;rw [HA.out.2.1] at r6;obtain ⟨Pp,xF⟩:∃q:Nat,q = A / 256:=⟨_,rfl⟩;have HPP:=bk xF;have It:Pp+1≤1024:=by rw [xF];have:=HA.out.2.2.1;omega
 have HWQ:=bk (show wrap64 (az.tdiv 256) = (Pp:Int)∧IntKind.i64.wrap (az.tdiv 256) = (Pp:Int) by rw [vR.out];exact cT HA.out.2.2.1 xF);have pi0:(0:Int)≤(Pp:Int):=by omega
 have pi1:(Pp:Int) < 1024:=by omega
 have nF:=bk (jm hq (p:=Pp) (c:=1) It);have qS:=QB.rt hq (i:=Pp) (by omega);have uG:=kX.out.rt Pp (by omega);obtain ⟨rr,wV⟩:∃r,r = (gs n).rt ((Pp:Nat):Int):=⟨_,rfl⟩;rw [← wV] at qS uG;have mZ:=bk (show rr = Ar.rt p.rl ((A / 256:Nat):Int) by rw [uG,xF]);have oY:=bk wV;have AJ:=mS.out.g ((A / 256:Nat):Int);rw [← mZ.out] at AJ;have Fd:=bk AJ;clear xF It uG wV AJ;clear hS hI hq mU hrel;obtain ⟨wq1,wq2⟩:=HWQ.out;go_wp2_with (first|refine cdA fun K U=>?_|refine bn fun K U=>?_;go_simp|refine bq ?_);clear wq1 wq2;refine nF.out.mono ?_;rintro e W4 ⟨⟨rfl,kY⟩ | ⟨rfl,lR⟩,rfl⟩
 case inr =>
  have h0:rr = 0:=by obtain ⟨q,a1,a2,a3⟩:=lR;have e:q = Pp:=(by omega);rw [oY.out,← e];exact a3
  obtain rfl:RR = (bw 7,none):=by rw [kH.out,ah (by rw [← mZ.out];exact h0)]
  clear lR nF h0;go_wp2_with fail;refine (ei 7 _).mono ?_;rintro e W5 ⟨rfl,kE⟩;have kV:=bk kE;clear kE;go_wp2_with (first|refine bu (b:=b6) (x:=zRs) (v:=zV) (y:=bw 7) (u:=zV) rfl _ _ rfl rfl rfl rfl (bf (lF.out W3 HS.out) kV.out) ?_;intro W6 h6 kF);refine bodyPost_ret (v:=.agg (rsc (bw 7) zV)) (results_cell_row (p:=6) (ty:=40) rfl _ _ b6 40 _ (0,0) _ rfl h6 Tryz.underlying40 rfl dq) rfl ?_;refine ⟨none,0,0,rfl,RE.nil ucl 1 _ none 0,fun _ hk=>(cw hk).elim,⟨sp,gs,?_⟩,?_⟩
  ·exact (oR.out.stay kV.out).new (B:=w.heap.size) kR.out kF (fun y hy=>by obtain rfl:=aa hy;have:=HB.out;omega)
  ·exact (((kS.out.stay HS.out).stay kV.out).up [m,gb n,gm n]).trans kF (fun y hy=>.inr (by obtain rfl:=aa hy;have:=HB.out;omega))
 have h0:rr≠0:=by rw [oY.out];exact kY Pp (by omega) (by omega)
 clear kY nF;rcases (show rr = 2∨rr = 1∨rr = 3 by have:=Fd.out;omega) with rfl | rfl | rfl
 ·obtain rfl:RR = (bw 190,none):=by rw [kH.out,ag (by rw [← mZ.out];decide),ah (by rw [← mZ.out];decide)]
  clear h0;go_wp2_with fail;refine (ei 190 _).mono ?_;rintro e W5 ⟨rfl,kE⟩;have kV:=bk kE;clear kE;go_wp2_with (first|refine bu (b:=b6) (x:=zRs) (v:=zV) (y:=bw 190) (u:=zV) rfl _ _ rfl rfl rfl rfl (bf (lF.out W3 HS.out) kV.out) ?_;intro W6 h6 kF);refine bodyPost_ret (v:=.agg (rsc (bw 190) zV)) (results_cell_row (p:=6) (ty:=40) rfl _ _ b6 40 _ (0,0) _ rfl h6 Tryz.underlying40 rfl dq) rfl ?_;refine ⟨none,0,0,rfl,RE.nil ucl 1 _ none 0,fun _ hk=>(cw hk).elim,⟨sp,gs,?_⟩,?_⟩
  ·exact (oR.out.stay kV.out).new (B:=w.heap.size) kR.out kF (fun y hy=>by obtain rfl:=aa hy;have:=HB.out;omega)
  ·exact (((kS.out.stay HS.out).stay kV.out).up [m,gb n,gm n]).trans kF (fun y hy=>.inr (by obtain rfl:=aa hy;have:=HB.out;omega))
 ·clear h0;go_upto_region 35 with (fail)
  clear qS;go_loopw [10,11] (fun bv iv wr=>∃(t:Nat) (A1:Option Addr) (n1 c1:Nat),t≤S∧iv = .int .i64 t∧bv = .slice A1 n1 c1∧Hid (SB wr (.slice A1 n1 c1) (jj (gs n) A t))∧Hid (∀i∈own (.slice A1 n1 c1),W3.heap.size≤i)∧Hid (Chg [] W3 wr)) (fun _ iv _=>S - (intOf iv).toNat)
  case atStart=>exact ⟨0,none,0,0,by omega,rfl,rfl,bk (SE.nil _ _ _ _),bk (fun _ h=>(cw h).elim),bk (av _ _)⟩
  case round =>
   obtain ⟨t,A1,n1,c1,ht,rfl,rfl,mP,pL,lN⟩:=hrel;have hI:=HI.out wr (HS.out.stay lN.out);obtain ⟨hq,mU,hrel⟩:=hI.pr n p HP.out;have HQ':=bk hq;have HMB':=bk mU;obtain ⟨s0,-,-,-,-,s5,s6,-,-,-,-,-,sl,-⟩:=ay (mC.out wr (HS.out.stay lN.out));rw [← show az = x.a by rw [vR.out];exact HA.out.1.symm] at s5;rw [HA.out.2.1] at s6;have gl':=bb hq;have wF:=hq.bmap;have i1:(t:Int) < 257:=(by have:=HA.out;omega);clear hI hq mU hrel r0 r1 r3 r4 r5 r6 r7 r8 r9 r11 rl gl ml;by_cases kG:t < S
   ·have nS:=bk kG;go_upto_region 37 with (fail)
    clear s0 s5 s6 sl gl' wF;refine rgt [0,0,0,0,1,0,1,0,0,3,2,3,0] [none,none,none,none,none,none,none,none,none,none,none,none,none] (fun _=>True) ?_;have nM:Chg [] wr wr.drew:=(av [] wr).drew;have AZ:=bk (mP.out.stay nM);generalize wr.drew = W4 at nM AZ ⊢;have lA:=bk (lN.out.stay nM);clear nM mP;have hI:=HI.out W4 (HS.out.stay lA.out);obtain ⟨hq,mU,hrel⟩:=hI.pr n p HP.out;have Aa:=bk mU;obtain ⟨s0,-,-,-,-,s5,s6,-,-,-,-,-,sl,-⟩:=ay (mC.out W4 (HS.out.stay lA.out));rw [← show az = x.a by rw [vR.out];exact HA.out.1.symm] at s5;rw [HA.out.2.1] at s6;have gl':=bb hq;have wF:=hq.bmap;clear hI hq mU hrel;obtain ⟨z,hz⟩:∃z:Nat,z = ((gs n).by_ ((A+t:Nat):Int)).getD 0:=⟨_,rfl⟩;have qE:(Instr.lookup 96 (Value.map (some (gm n))) (Value.int IntKind.i64 (wrap64 (az+(t:Int)))) false).run Tryz.prog W4 = .ok (.int .u8 z) W4:=by
     have e:wrap64 (az+(t:Int)) = ((A+t:Nat):Int):=(by rw [vR.out];have:=HA.out;unfold wrap64;omega);rw [e,hz];cases hb:(gs n).by_ ((A+t:Nat):Int) with
     | some y=>exact fh Tryz.underlying96 Tryz.underlying3 Aa.out (by unfold byF;rw [hb];rfl) false
     | none=>exact fg Tryz.underlying96 Tryz.underlying3 Aa.out (by unfold byF;rw [hb];rfl) (zero5 W4) false
    have HZ:=bk hz;clear hz;have DI:=bk (fun W' (h':Chg [] W4 W')=>AZ.out.stay h');go_wp2_with (first|refine dy fun K U=>?_;refine ko _ _ rfl (.slice A1 n1 c1) (.slice (some ⟨W4.heap.size,0,none⟩) 1 1) rfl rfl (DI.out _ ((av [] W4).alloc _)) (RB_one W4 z) (by rw [xi];have:=HA.out;simp;omega) ?_;intro A9 n9 c9 W9 nQ mY lC oF;refine U _ _ ?_;clear U K|refine cdA fun K U=>?_|refine bn fun K U=>?_;go_simp|refine bq ?_);go_roundw
    case rel=>exact ⟨t+1,A9,n9,c9,nS.out,by go_num,rfl,bk (by rw [vm,← HZ.out];exact mY),bk (fun k hk=>(oF k hk).elim (pL.out k) (fun h=>au lA.out.size (au (by rw [af];omega) h))),bk (((lA.out.stay ((av [] W4).alloc _)).trans lC (fun y hy=>.inr (pL.out y hy))))⟩
    case measure=>have:=nS.out;simp [intOf];omega
   ·obtain rfl:t = S:=(by omega);clear kG;have EV:=bk (br_l A1 n1 c1 (jj (gs n) A t));go_wp2_with (first|refine cz rfl _ rfl EV.out ?_ ?_;(focus (simp [Act.eval,Act.put];done))|refine bu (b:=b6) (x:=zRs) (v:=zV) (y:=⟨0,0,jj (gs n) A t⟩) (u:=.slice A1 n1 c1) rfl _ _ rfl rfl rfl rfl (lF.out wr (HS.out.stay lN.out)) ?_;intro W6 h6 kF);refine bodyPost_ret (v:=.agg (rsc ⟨0,0,jj (gs n) A t⟩ (.slice A1 n1 c1))) (results_cell_row (p:=6) (ty:=40) rfl _ _ b6 40 _ (0,0) _ rfl h6 Tryz.underlying40 rfl dq) rfl ?_;obtain rfl:RR = (⟨0,0,jj (gs n) A t⟩,none):=(by rw [kH.out,ag (by rw [← mZ.out];decide),ag (by rw [← mZ.out];decide),aC kX.out HA.out.2.2.1 HA.out.2.2.2.2 (lX.out _)]);have mF:b6 < W3.heap.size:=bb (lF.out W3 HS.out);have CE:=(kS.out.stay HS.out).size;refine ⟨A1,n1,c1,rfl,(mP.out.chg kF (fun k hk mG=>by obtain rfl:=aa mG;have:=pL.out _ hk;omega)).re,fun k hk=>au CE (pL.out k hk),⟨sp,gs,?_⟩,?_⟩
    ·exact (HI.out wr (HS.out.stay lN.out)).new (B:=w.heap.size) kR.out kF (fun y hy=>by obtain rfl:=aa hy;have:=HB.out;omega)
    ·exact (((kS.out.stay HS.out).stay lN.out).up [m,gb n,gm n]).trans kF (fun y hy=>.inr (by obtain rfl:=aa hy;have:=HB.out;omega))
 ·clear h0;go_upto_region 35 with (fail)
  clear qS;go_loopw [10,11] (fun bv iv wr=>∃(t:Nat) (A1:Option Addr) (n1 c1:Nat),t≤S∧iv = .int .i64 t∧bv = .slice A1 n1 c1∧Hid (SB wr (.slice A1 n1 c1) (jj (gs n) A t))∧Hid (∀i∈own (.slice A1 n1 c1),W3.heap.size≤i)∧Hid (Chg [] W3 wr)) (fun _ iv _=>S - (intOf iv).toNat)
  case atStart=>exact ⟨0,none,0,0,by omega,rfl,rfl,bk (SE.nil _ _ _ _),bk (fun _ h=>(cw h).elim),bk (av _ _)⟩
  case round =>
   obtain ⟨t,A1,n1,c1,ht,rfl,rfl,mP,pL,lN⟩:=hrel;have hI:=HI.out wr (HS.out.stay lN.out);obtain ⟨hq,mU,hrel⟩:=hI.pr n p HP.out;have HQ':=bk hq;have HMB':=bk mU;obtain ⟨s0,-,-,-,-,s5,s6,-,-,-,-,-,sl,-⟩:=ay (mC.out wr (HS.out.stay lN.out));rw [← show az = x.a by rw [vR.out];exact HA.out.1.symm] at s5;rw [HA.out.2.1] at s6;have gl':=bb hq;have wF:=hq.bmap;have i1:(t:Int) < 257:=(by have:=HA.out;omega);clear hI hq mU hrel r0 r1 r3 r4 r5 r6 r7 r8 r9 r11 rl gl ml;by_cases kG:t < S
   ·have nS:=bk kG;go_upto_region 37 with (fail)
    clear s0 s5 s6 sl gl' wF;refine rgt [0,0,0,0,1,0,1,0,0,3,2,3,0] [none,none,none,none,none,none,none,none,none,none,none,none,none] (fun _=>True) ?_;have nM:Chg [] wr wr.drew:=(av [] wr).drew;have AZ:=bk (mP.out.stay nM);generalize wr.drew = W4 at nM AZ ⊢;have lA:=bk (lN.out.stay nM);clear nM mP;have hI:=HI.out W4 (HS.out.stay lA.out);obtain ⟨hq,mU,hrel⟩:=hI.pr n p HP.out;have Aa:=bk mU;obtain ⟨s0,-,-,-,-,s5,s6,-,-,-,-,-,sl,-⟩:=ay (mC.out W4 (HS.out.stay lA.out));rw [← show az = x.a by rw [vR.out];exact HA.out.1.symm] at s5;rw [HA.out.2.1] at s6;have gl':=bb hq;have wF:=hq.bmap;clear hI hq mU hrel;obtain ⟨z,hz⟩:∃z:Nat,z = ((gs n).by_ ((A+t:Nat):Int)).getD 0:=⟨_,rfl⟩;have qE:(Instr.lookup 96 (Value.map (some (gm n))) (Value.int IntKind.i64 (wrap64 (az+(t:Int)))) false).run Tryz.prog W4 = .ok (.int .u8 z) W4:=by
     have e:wrap64 (az+(t:Int)) = ((A+t:Nat):Int):=(by rw [vR.out];have:=HA.out;unfold wrap64;omega);rw [e,hz];cases hb:(gs n).by_ ((A+t:Nat):Int) with
     | some y=>exact fh Tryz.underlying96 Tryz.underlying3 Aa.out (by unfold byF;rw [hb];rfl) false
     | none=>exact fg Tryz.underlying96 Tryz.underlying3 Aa.out (by unfold byF;rw [hb];rfl) (zero5 W4) false
    have HZ:=bk hz;clear hz;have DI:=bk (fun W' (h':Chg [] W4 W')=>AZ.out.stay h');go_wp2_with (first|refine dy fun K U=>?_;refine ko _ _ rfl (.slice A1 n1 c1) (.slice (some ⟨W4.heap.size,0,none⟩) 1 1) rfl rfl (DI.out _ ((av [] W4).alloc _)) (RB_one W4 z) (by rw [xi];have:=HA.out;simp;omega) ?_;intro A9 n9 c9 W9 nQ mY lC oF;refine U _ _ ?_;clear U K|refine cdA fun K U=>?_|refine bn fun K U=>?_;go_simp|refine bq ?_);go_roundw
    case rel=>exact ⟨t+1,A9,n9,c9,nS.out,by go_num,rfl,bk (by rw [vm,← HZ.out];exact mY),bk (fun k hk=>(oF k hk).elim (pL.out k) (fun h=>au lA.out.size (au (by rw [af];omega) h))),bk (((lA.out.stay ((av [] W4).alloc _)).trans lC (fun y hy=>.inr (pL.out y hy))))⟩
    case measure=>have:=nS.out;simp [intOf];omega
   ·obtain rfl:t = S:=(by omega);clear kG;have EV:=bk (br_l A1 n1 c1 (jj (gs n) A t));go_wp2_with (first|refine cz rfl _ rfl EV.out ?_ ?_;(focus (simp [Act.eval,Act.put];done))|refine bu (b:=b6) (x:=zRs) (v:=zV) (y:=⟨0,0,jj (gs n) A t⟩) (u:=.slice A1 n1 c1) rfl _ _ rfl rfl rfl rfl (lF.out wr (HS.out.stay lN.out)) ?_;intro W6 h6 kF);refine bodyPost_ret (v:=.agg (rsc ⟨0,0,jj (gs n) A t⟩ (.slice A1 n1 c1))) (results_cell_row (p:=6) (ty:=40) rfl _ _ b6 40 _ (0,0) _ rfl h6 Tryz.underlying40 rfl dq) rfl ?_;obtain rfl:RR = (⟨0,0,jj (gs n) A t⟩,none):=(by rw [kH.out,ag (by rw [← mZ.out];decide),ag (by rw [← mZ.out];decide),aC kX.out HA.out.2.2.1 HA.out.2.2.2.2 (lX.out _)]);have mF:b6 < W3.heap.size:=bb (lF.out W3 HS.out);have CE:=(kS.out.stay HS.out).size;refine ⟨A1,n1,c1,rfl,(mP.out.chg kF (fun k hk mG=>by obtain rfl:=aa mG;have:=pL.out _ hk;omega)).re,fun k hk=>au CE (pL.out k hk),⟨sp,gs,?_⟩,?_⟩
    ·exact (HI.out wr (HS.out.stay lN.out)).new (B:=w.heap.size) kR.out kF (fun y hy=>by obtain rfl:=aa hy;have:=HB.out;omega)
    ·exact (((kS.out.stay HS.out).stay lN.out).up [m,gb n,gm n]).trans kF (fun y hy=>.inr (by obtain rfl:=aa hy;have:=HB.out;omega))
def stS (s:Sq) (A:Nat) (l:List Nat) (t:Nat):Sq:={ s with by_:=fun a=>if (A:Int)≤a∧a < ((A+t:Nat):Int) then l[(a - (A:Int)).toNat]? else s.by_ a }
theorem dZ (s:Sq) (A:Nat) (l:List Nat):stS s A l 0 = s:=by unfold stS;have:(fun a:Int=>if (A:Int)≤a∧a < ((A+0:Nat):Int) then l[(a - (A:Int)).toNat]? else s.by_ a) = s.by_:=funext fun a=>ag (by omega);rw [this]
variable {l:List Nat}
theorem gT (s:Sq) (A:Nat) {t:Nat} (ht:t < l.length):byF (stS s A l (t+1)) = fun y=>if y = ((A+t:Nat):Int) then some (.int .u8 (l[t]:Nat)) else byF (stS s A l t) y:=by
 funext y;unfold byF stS;by_cases h:y = ((A+t:Nat):Int)
 ·subst h;simp only [ah rfl];rw [ah (by omega),show (((A+t:Nat):Int) - (A:Int)).toNat = t by omega,List.getElem?_eq_getElem ht];rfl
 ·simp only [ag h];by_cases h2:(A:Int)≤y∧y < ((A+t:Nat):Int)
  ·rw [ah (by omega),ah h2]
  ·rw [ag (by omega),ag h2]
variable {f:Int→Option Value}
theorem RB.not_map {v:Value} (h:RB w v l) (hl:l≠[]) {b:Nat} {k:IntKind} (hb:MapB w b k f):b∉own v:=by obtain ⟨A,c,rfl⟩:=h.form;have h0:0 < l.length:=List.length_pos_iff.2 hl;obtain ⟨g,off,rfl⟩:=h.addr h0;have h1:=RE.cell (size:=1) (enc:=ucl) (fun _=>rfl) h (k:=0) (j:=0) h0 (Nat.zero_lt_one) rfl;intro hm;obtain ⟨es,cl,e1,-⟩:=hb;obtain rfl:g = b:=aq (ip.1 hm);simp [World.cell?,e1] at h1
theorem tn {b:List Nat} {a i:Nat} (h:a+l.length≤b.length):(di b a l).getD i 0 = if a≤i∧i < a+l.length then l.getD (i - a) 0 else b.getD i 0:=by
 unfold di;simp only [List.getD_eq_getElem?_getD];rw [List.append_assoc];by_cases h1:i < a
 ·rw [List.getElem?_append_left (by rw [List.length_take];omega),List.getElem?_take,ah h1,ag (by omega)]
 ·rw [List.getElem?_append_right (by rw [List.length_take];omega),List.length_take,Nat.min_eq_left (by omega)];by_cases h2:i < a+l.length
  ·rw [List.getElem?_append_left (by omega),ah (by omega)]
  ·rw [List.getElem?_append_right (by omega),List.getElem?_drop,ag (by omega),show a+l.length+(i - a - l.length) = i by omega]
theorem RelP.store (h:RelP p s) (hA:A < 262144) (hl:A % 256+l.length≤256) (h8:∀y∈l,y < 256) (hp:(jl p ((A / 256:Nat):Int)).length = 256) :
  RelP { p with pg:=upd p.pg ((A / 256:Nat):Int) (some (di (jl p ((A / 256:Nat):Int)) (A % 256) l)) } (stS s A l l.length):=by
 refine ⟨h.rt,fun a h1 h2=>?_,fun a v hv=>?_,h.ow,h.po,h.ak,h.am⟩
 ·have hb:=h.by_ a h1 h2;show (if (A:Int)≤a∧a < ((A+l.length:Nat):Int) then l[(a - (A:Int)).toNat]? else s.by_ a).getD 0 = ((upd p.pg ((A / 256:Nat):Int) (some (di (jl p ((A / 256:Nat):Int)) (A % 256) l)) (a / 256)).getD zeroPg).getD (a % 256).toNat 0;by_cases e:a / 256 = ((A / 256:Nat):Int)
  ·rw [e,gn,Option.getD_some,tn (by omega)];by_cases g:(A:Int)≤a∧a < ((A+l.length:Nat):Int)
   ·rw [ah g,ah (by omega),show (a - (A:Int)).toNat = (a % 256).toNat - A % 256 by omega,List.getD_eq_getElem?_getD]
   ·rw [ag g,ag (by omega),hb,e]
  ·rw [fu _ _ e,ag (by omega),hb];rfl
 ·have sJ:(if (A:Int)≤a∧a < ((A+l.length:Nat):Int) then l[(a - (A:Int)).toNat]? else s.by_ a) = some v:=hv;split at sJ
  ·exact h8 v (List.mem_of_getElem? sJ)
  ·exact h.b8 a v sJ
theorem gH (h:WIn w m M sp vo ve L E gb gm gs) (kG:∀k,FW' M m vo ve L gb gm k→k < w.heap.size)
  {x:Cl} (hx:x.Ok) {n:Nat} (mK:x.p = n) {p:Pr} (hp:M.pr n = some p) (hs:Ar.Sp p.rl) (kQ:∀q:Int,(jl p q).length = 256) (hk:x.k = 9) {A:Nat} (ha:x.a = A) (ha8:A < 262144) (mE:1≤x.l.length) (haS:A % 256+x.l.length≤256)  (tD:∀y∈x.l,y < 256) (v:Value) (hv:v.oneCell' = true) (hvb:RB w v x.l) :
  Calls Tryz.prog 77 #[.pointer (some ⟨m,0,none⟩),.pointer (some ⟨gb n,0,none⟩),.agg (clc x v)] w fun e w'=>SpR w w' m M vo ve L E gb gm n (dc M x 0 p) e:=by
 obtain ⟨n1,n8⟩:=h.rng n p hp;have nQ:n < 9:=by omega
 have hR:dc M x 0 p = (if Ar.rt p.rl ((A / 256:Nat):Int) = 0 then (bw 7,none) else if Ar.rt p.rl ((A / 256:Nat):Int) < 2 then (bw 190,none) else (bw 0,some { M with pr:=upd M.pr n (some { p with pg:=upd p.pg ((A / 256:Nat):Int) (some (di (jl p ((A / 256:Nat):Int)) (A % 256) x.l)) }) })):=by
  have e1:x.a / 256 = ((A / 256:Nat):Int):=by omega
  have e2:(x.a % 256).toNat = A % 256:=by omega
  unfold dc;rw [ag (by omega),ag (by omega),ag (by omega),ag (by omega),ah (by omega),mK];unfold dt;simp only [e1,e2];split
  ·rfl
  ·rw [ag (by omega)];split <;> rfl
 obtain ⟨RR,lJ⟩:∃R,R = dc M x 0 p:=⟨_,rfl⟩;rw [← lJ];rw [hR] at lJ;have kH:=bk lJ;clear hR lJ;obtain ⟨W1,kP⟩:∃W1,W1 = w.alloc (.cells (clc x v) 47):=⟨_,rfl⟩;obtain ⟨W2,kJ⟩:∃W2,W2 = W1.alloc (.cells (rsc zRs zV) 40):=⟨_,rfl⟩;have c01:Chg [] w W1:=by rw [kP];exact (av [] w).alloc _
 have c12:Chg [] W1 W2:=by rw [kJ];exact (av [] W1).alloc _
 have lM:KB W2 w.heap.size x v:=bh (by rw [kP];exact ax w _ _) c12;have lW:XB W2 W1.heap.size zRs zV:=by rw [kJ];exact ax W1 _ _
 have e1:W1.heap.size = w.heap.size+1:=by rw [kP];exact af _ _
 obtain ⟨b3,lD⟩:∃y,y = w.heap.size:=⟨_,rfl⟩;obtain ⟨b6,mF⟩:∃y,y = W1.heap.size:=⟨_,rfl⟩;rw [← lD] at lM;rw [← mF] at lW;have HI:=bk (fun W (hc:Chg [] W2 W)=>h.stay ((c01.stay c12).stay hc));have mC:=bk (fun W (hc:Chg [] W2 W)=>(bh lM hc:KB W b3 x v));have lF:=bk (fun W (hc:Chg [] W2 W)=>(bf lW hc:XB W b6 zRs zV));have kS:=bk (c01.stay c12);have mH:=bk kP;have kW:=bk kJ;have HB:=bk (show b3 = w.heap.size∧b6 = w.heap.size+1 by omega);have lI:=bk lD;have lS:=bk mF;have kR:=bk kG;have HP:=bk hp;have HN:=bk (show 1≤n∧n < 9 by omega);have nT:=bk (ai hk mK);have oX:=bk hx;have HA:=bk (show x.a = (A:Int)∧A < 262144∧1≤x.l.length∧A % 256+x.l.length≤256 from ⟨ha,ha8,mE,haS⟩);have mS:=bk hs;have lX:=bk kQ;have HV8:=bk tD;have HVB:=bk (hvb.stay (c01.stay c12));clear h kG hx mK hp c01 c12 lM lW e1 lD mF kP kJ n1 n8 nQ hk ha ha8 mE haS hs kQ hvb tD;go_enter Tryz.func77,Tryz.ntmps77;go_upto_region 1 with (first|refine cc rfl _ rfl rfl ?_;try rw [← mH.out]|refine ck rfl rfl ?_;try rw [← kW.out])
 try rw [← lI.out,← lS.out]
 refine vc [0,1,0,1,0,0] ?_;have hS:Chg [] W2 W2.drew:=(av [] W2).drew;generalize W2.drew = W3 at hS ⊢;have HS:=bk hS;have hI:=HI.out W3 hS;obtain ⟨hq,mU,hrel⟩:=hI.pr n p HP.out;have oR:=bk hI;have HQ:=bk hq;have pE:=bk mU;have kX:=bk hrel;obtain ⟨r0,r1,-,r3,r4,r5,r6,r7,r8,r9,-,r11,rl,-⟩:=ay (mC.out W3 hS);rw [nT.out.1] at r0;rw [nT.out.2] at r1;have gl:=bb hq;have ml:=bb hI.blk;obtain ⟨az,Ed⟩:∃z:Int,z = x.a:=⟨_,rfl⟩;rw [← Ed] at r5;have vR:=bk (show az = (A:Int) by rw [Ed];exact HA.out.1);clear Ed;obtain ⟨Pp,xF⟩:∃q:Nat,q = A / 256:=⟨_,rfl⟩;have HPP:=bk xF;have It:Pp+1≤1024:=by rw [xF];have:=HA.out.2.1;omega
 have HWQ:=bk (show wrap64 (az.tdiv 256) = (Pp:Int)∧IntKind.i64.wrap (az.tdiv 256) = (Pp:Int) by rw [vR.out];exact cT HA.out.2.1 xF);have pi0:(0:Int)≤(Pp:Int):=by omega
 have pi1:(Pp:Int) < 1024:=by omega
 have nF:=bk (jm hq (p:=Pp) (c:=1) It);have qS:=QB.rt hq (i:=Pp) (by omega);have uG:=kX.out.rt Pp (by omega);obtain ⟨rr,wV⟩:∃r,r = (gs n).rt ((Pp:Nat):Int):=⟨_,rfl⟩;rw [← wV] at qS uG;have mZ:=bk (show rr = Ar.rt p.rl ((A / 256:Nat):Int) by rw [uG,xF]);have oY:=bk wV;have AJ:=mS.out.g ((A / 256:Nat):Int);rw [← mZ.out] at AJ;have Fd:=bk AJ;clear xF It uG wV AJ;clear hS hI hq mU hrel;obtain ⟨wq1,wq2⟩:=HWQ.out;go_wp2_with (first|refine cdA fun K U=>?_|refine bn fun K U=>?_;go_simp|refine bq ?_);clear wq1 wq2;refine nF.out.mono ?_;rintro e W4 ⟨⟨rfl,kY⟩ | ⟨rfl,lR⟩,rfl⟩
 case inr =>
  have h0:rr = 0:=by obtain ⟨q,a1,a2,a3⟩:=lR;have e:q = Pp:=(by omega);rw [oY.out,← e];exact a3
  obtain rfl:RR = (bw 7,none):=by rw [kH.out,ah (by rw [← mZ.out];exact h0)]
  clear lR nF h0;go_wp2_with fail;refine (ei 7 _).mono ?_;rintro e W5 ⟨rfl,kE⟩;have kV:=bk kE;clear kE;go_wp2_with (first|refine bu (b:=b6) (x:=zRs) (v:=zV) (y:=bw 7) (u:=zV) rfl _ _ rfl rfl rfl rfl (bf (lF.out W3 HS.out) kV.out) ?_;intro W6 h6 kF);refine bodyPost_ret (v:=.agg (rsc (bw 7) zV)) (results_cell_row (p:=6) (ty:=40) rfl _ _ b6 40 _ (0,0) _ rfl h6 Tryz.underlying40 rfl dq) rfl ?_;refine ⟨none,0,0,rfl,RE.nil ucl 1 _ none 0,fun _ hk=>(cw hk).elim,⟨sp,gs,?_⟩,?_⟩
  ·exact (oR.out.stay kV.out).new (B:=w.heap.size) kR.out kF (fun y hy=>by obtain rfl:=aa hy;have:=HB.out;omega)
  ·exact (((kS.out.stay HS.out).stay kV.out).up [m,gb n,gm n]).trans kF (fun y hy=>.inr (by obtain rfl:=aa hy;have:=HB.out;omega))
 have h0:rr≠0:=by rw [oY.out];exact kY Pp (by omega) (by omega)
 clear kY nF;rcases (show rr = 1∨rr = 2∨rr = 3 by have:=Fd.out;omega) with rfl | rfl | rfl
 ·obtain rfl:RR = (bw 190,none):=by rw [kH.out,ag (by rw [← mZ.out];decide),ah (by rw [← mZ.out];decide)]
  clear h0;go_wp2_with fail;refine (ei 190 _).mono ?_;rintro e W5 ⟨rfl,kE⟩;have kV:=bk kE;clear kE;go_wp2_with (first|refine bu (b:=b6) (x:=zRs) (v:=zV) (y:=bw 190) (u:=zV) rfl _ _ rfl rfl rfl rfl (bf (lF.out W3 HS.out) kV.out) ?_;intro W6 h6 kF);refine bodyPost_ret (v:=.agg (rsc (bw 190) zV)) (results_cell_row (p:=6) (ty:=40) rfl _ _ b6 40 _ (0,0) _ rfl h6 Tryz.underlying40 rfl dq) rfl ?_;refine ⟨none,0,0,rfl,RE.nil ucl 1 _ none 0,fun _ hk=>(cw hk).elim,⟨sp,gs,?_⟩,?_⟩
  ·exact (oR.out.stay kV.out).new (B:=w.heap.size) kR.out kF (fun y hy=>by obtain rfl:=aa hy;have:=HB.out;omega)
  ·exact (((kS.out.stay HS.out).stay kV.out).up [m,gb n,gm n]).trans kF (fun y hy=>.inr (by obtain rfl:=aa hy;have:=HB.out;omega))
 ·clear h0;have DL:=bk (HVB.out.stay HS.out);have pR:=bk (show gb n∉[gm n] from by simp;exact bj HQ.out pE.out);have qL:=bk (show b3∉[gm n] from by have h1:=HB.out;have h3:=kR.out (gm n) (.inr (.inr (.inr (.inr ⟨n,p,HP.out,.inr rfl⟩))));simp;omega);have HNV:=bk (show ∀k∈own v,k∉[gm n] from fun k hk mG=>by obtain rfl:=aa mG;exact RB.not_map DL.out (by intro e;have:=HA.out;rw [e] at this;simp at this) pE.out hk);obtain ⟨Av,cv,zI⟩:=DL.out.form;have Bt:=bk zI;rw [zI] at r11;clear zI;go_upto_region 43 with (fail)
  clear qS;go_loopw [12] (fun iv wr=>∃t:Nat,t≤x.l.length∧iv = .int .i64 t∧Hid (MapB wr (gm n) .i64 (byF (stS (gs n) A x.l t)))∧Hid (Chg [gm n] W3 wr)) (fun iv _=>x.l.length - (intOf iv).toNat)
  case atStart=>exact ⟨0,by omega,rfl,bk (by rw [dZ];exact pE.out),bk (av _ _)⟩
  case round =>
   obtain ⟨t,ht,rfl,Cu,lN⟩:=hrel;obtain ⟨s0,-,-,-,-,s5,-,-,-,-,-,s11,sl,-⟩:=ay (show KB wr b3 x v from aw (mC.out W3 HS.out) lN.out qL.out);rw [← show az = x.a by rw [vR.out];exact HA.out.1.symm] at s5;rw [Bt.out] at s11;have i1:(t:Int) < 257:=(by have:=HA.out;omega);have i2:(x.l.length:Int) < 257:=(by have:=HA.out;omega);clear r0 r1 r3 r4 r5 r6 r7 r8 r9 r11 rl gl ml;by_cases kG:t < x.l.length
   ·have nS:=bk kG;go_upto_region 45 with (fail)
    clear s0 s5 s11 sl;refine rgn14 [0,0,0,1,0,1,0,0,0,1,0,0,1,3] ?_;have nM:Chg [] wr wr.drew:=(av [] wr).drew;have AU:=bk (Cu.out.stay nM);have lA:=bk (lN.out.stay nM);generalize wr.drew = W4 at nM AU lA ⊢;clear nM Cu;obtain ⟨s0,-,-,-,-,s5,-,-,-,-,-,s11,sl,-⟩:=ay (show KB W4 b3 x v from aw (mC.out W3 HS.out) lA.out qL.out);rw [← show az = x.a by rw [vR.out];exact HA.out.1.symm] at s5;rw [Bt.out] at s11;have AX:QB W4 (gb n) (gs n) (gm n):=aw HQ.out lA.out pR.out;have gl':=bb AX;have wF:=AX.bmap;have CA:RB W4 v x.l:=DL.out.chg lA.out HNV.out;rw [Bt.out] at CA;obtain ⟨vg,vo_,rfl⟩:=CA.addr (by omega);have wJ:=RE.cell (size:=1) (enc:=ucl) (fun _=>rfl) CA (k:=t) (j:=0) kG Nat.zero_lt_one rfl;rw [Nat.mul_one,Nat.add_zero] at wJ;obtain ⟨y,hy⟩:∃y:Nat,y = x.l[t]:=⟨_,rfl⟩;have Em:W4.cell? ⟨vg,vo_+t,none⟩ = some (.int .u8 (y:Nat)):=(by rw [hy];exact wJ);clear wJ;have HY:=bk hy;clear AX CA hy;go_wp2_with (first|refine dy fun K U=>?_;refine ir (val:=.int .u8 (y:Nat)) _ _ _ rfl Tryz.underlying96 Tryz.underlying3 rfl rfl rfl AU.out ?_;intro W5 h5 kE;refine U _ _ ?_;clear U K|refine cdA fun K U=>?_|refine bn fun K U=>?_;go_simp|refine bq ?_);go_roundw
    case rel =>
     have e:wrap64 (az+(t:Int)) = ((A+t:Nat):Int):=(by rw [vR.out];have:=HA.out;unfold wrap64;omega);rw [e,HY.out] at h5;exact ⟨t+1,nS.out,by go_num,bk (by rw [gT _ _ nS.out];exact h5),bk (lA.out.trans kE (fun y hy=>.inl hy))⟩
    case measure=>have:=nS.out;simp [intOf];omega
   ·obtain rfl:t = x.l.length:=(by omega);clear kG;have pT:=bk (oR.out.put HP.out (lN.out.mono (fun y hy=>.inl (by simp at hy;simp [hy]))) (show QB wr (gb n) (stS (gs n) A x.l x.l.length) (gm n) from aw HQ.out lN.out pR.out) Cu.out (kX.out.store HA.out.2.1 HA.out.2.2.2 HV8.out (lX.out _)));have lA:=bk (show Chg [gb n,gm n] W3 wr from lN.out.mono (fun y hy=>.inl (by simp at hy;simp [hy])));clear lN Cu;go_wp2_with fail;refine (ei 0 _).mono ?_;rintro e W5 ⟨rfl,kE⟩;have kU:=bk kE;have qJ:=bk (show Chg [gb n,gm n] W3 W5 from lA.out.stay kE);clear kE;go_wp2_with (first|refine bu (b:=b6) (x:=zRs) (v:=zV) (y:=bw 0) (u:=zV) rfl _ _ rfl rfl rfl rfl (aw (lF.out W3 HS.out) qJ.out (by have h1:=HB.out;have h2:=kR.out (gb n) (.inr (.inr (.inr (.inr ⟨n,p,HP.out,.inl rfl⟩))));have h3:=kR.out (gm n) (.inr (.inr (.inr (.inr ⟨n,p,HP.out,.inr rfl⟩))));simp;omega)) ?_;intro W6 h6 kF);refine bodyPost_ret (v:=.agg (rsc (bw 0) zV)) (results_cell_row (p:=6) (ty:=40) rfl _ _ b6 40 _ (0,0) _ rfl h6 Tryz.underlying40 rfl dq) rfl ?_;obtain rfl:RR = (bw 0,some { M with pr:=upd M.pr n (some { p with pg:=upd p.pg ((A / 256:Nat):Int) (some (di (jl p ((A / 256:Nat):Int)) (A % 256) x.l)) }) }):=(by rw [kH.out,ag (by rw [← mZ.out];decide),ag (by rw [← mZ.out];decide)]);refine ⟨none,0,0,rfl,RE.nil ucl 1 _ none 0,fun _ hk=>(cw hk).elim,⟨sp,(upN gs n (stS (gs n) A x.l x.l.length)),?_⟩,?_⟩
    ·show WIn W6 m { M with pr:=upd M.pr n (some { p with pg:=upd p.pg ((A / 256:Nat):Int) (some (di (jl p ((A / 256:Nat):Int)) (A % 256) x.l)) }) } sp vo ve L E gb gm (upN gs n (stS (gs n) A x.l x.l.length));exact ((pT.out.stay kU.out)).new (B:=w.heap.size) (fun k hk=>kR.out k (hk.sub (nt HP.out _))) kF (fun y hy=>by obtain rfl:=aa hy;have:=HB.out;omega)
    ·exact (((kS.out.stay HS.out).up [m,gb n,gm n]).trans qJ.out (fun y hy=>.inl (by simp at hy;simp;omega))).trans kF (fun y hy=>.inr (by obtain rfl:=aa hy;have:=HB.out;omega))
 ·clear h0;have DL:=bk (HVB.out.stay HS.out);have pR:=bk (show gb n∉[gm n] from by simp;exact bj HQ.out pE.out);have qL:=bk (show b3∉[gm n] from by have h1:=HB.out;have h3:=kR.out (gm n) (.inr (.inr (.inr (.inr ⟨n,p,HP.out,.inr rfl⟩))));simp;omega);have HNV:=bk (show ∀k∈own v,k∉[gm n] from fun k hk mG=>by obtain rfl:=aa mG;exact RB.not_map DL.out (by intro e;have:=HA.out;rw [e] at this;simp at this) pE.out hk);obtain ⟨Av,cv,zI⟩:=DL.out.form;have Bt:=bk zI;rw [zI] at r11;clear zI;go_upto_region 43 with (fail)
  clear qS;go_loopw [12] (fun iv wr=>∃t:Nat,t≤x.l.length∧iv = .int .i64 t∧Hid (MapB wr (gm n) .i64 (byF (stS (gs n) A x.l t)))∧Hid (Chg [gm n] W3 wr)) (fun iv _=>x.l.length - (intOf iv).toNat)
  case atStart=>exact ⟨0,by omega,rfl,bk (by rw [dZ];exact pE.out),bk (av _ _)⟩
  case round =>
   obtain ⟨t,ht,rfl,Cu,lN⟩:=hrel;obtain ⟨s0,-,-,-,-,s5,-,-,-,-,-,s11,sl,-⟩:=ay (show KB wr b3 x v from aw (mC.out W3 HS.out) lN.out qL.out);rw [← show az = x.a by rw [vR.out];exact HA.out.1.symm] at s5;rw [Bt.out] at s11;have i1:(t:Int) < 257:=(by have:=HA.out;omega);have i2:(x.l.length:Int) < 257:=(by have:=HA.out;omega);clear r0 r1 r3 r4 r5 r6 r7 r8 r9 r11 rl gl ml;by_cases kG:t < x.l.length
   ·have nS:=bk kG;go_upto_region 45 with (fail)
    clear s0 s5 s11 sl;refine rgn14 [0,0,0,1,0,1,0,0,0,1,0,0,1,3] ?_;have nM:Chg [] wr wr.drew:=(av [] wr).drew;have AU:=bk (Cu.out.stay nM);have lA:=bk (lN.out.stay nM);generalize wr.drew = W4 at nM AU lA ⊢;clear nM Cu;obtain ⟨s0,-,-,-,-,s5,-,-,-,-,-,s11,sl,-⟩:=ay (show KB W4 b3 x v from aw (mC.out W3 HS.out) lA.out qL.out);rw [← show az = x.a by rw [vR.out];exact HA.out.1.symm] at s5;rw [Bt.out] at s11;have AX:QB W4 (gb n) (gs n) (gm n):=aw HQ.out lA.out pR.out;have gl':=bb AX;have wF:=AX.bmap;have CA:RB W4 v x.l:=DL.out.chg lA.out HNV.out;rw [Bt.out] at CA;obtain ⟨vg,vo_,rfl⟩:=CA.addr (by omega);have wJ:=RE.cell (size:=1) (enc:=ucl) (fun _=>rfl) CA (k:=t) (j:=0) kG Nat.zero_lt_one rfl;rw [Nat.mul_one,Nat.add_zero] at wJ;obtain ⟨y,hy⟩:∃y:Nat,y = x.l[t]:=⟨_,rfl⟩;have Em:W4.cell? ⟨vg,vo_+t,none⟩ = some (.int .u8 (y:Nat)):=(by rw [hy];exact wJ);clear wJ;have HY:=bk hy;clear AX CA hy;go_wp2_with (first|refine dy fun K U=>?_;refine ir (val:=.int .u8 (y:Nat)) _ _ _ rfl Tryz.underlying96 Tryz.underlying3 rfl rfl rfl AU.out ?_;intro W5 h5 kE;refine U _ _ ?_;clear U K|refine cdA fun K U=>?_|refine bn fun K U=>?_;go_simp|refine bq ?_);go_roundw
    case rel =>
     have e:wrap64 (az+(t:Int)) = ((A+t:Nat):Int):=(by rw [vR.out];have:=HA.out;unfold wrap64;omega);rw [e,HY.out] at h5;exact ⟨t+1,nS.out,by go_num,bk (by rw [gT _ _ nS.out];exact h5),bk (lA.out.trans kE (fun y hy=>.inl hy))⟩
    case measure=>have:=nS.out;simp [intOf];omega
   ·obtain rfl:t = x.l.length:=(by omega);clear kG;have pT:=bk (oR.out.put HP.out (lN.out.mono (fun y hy=>.inl (by simp at hy;simp [hy]))) (show QB wr (gb n) (stS (gs n) A x.l x.l.length) (gm n) from aw HQ.out lN.out pR.out) Cu.out (kX.out.store HA.out.2.1 HA.out.2.2.2 HV8.out (lX.out _)));have lA:=bk (show Chg [gb n,gm n] W3 wr from lN.out.mono (fun y hy=>.inl (by simp at hy;simp [hy])));clear lN Cu;go_wp2_with fail;refine (ei 0 _).mono ?_;rintro e W5 ⟨rfl,kE⟩;have kU:=bk kE;have qJ:=bk (show Chg [gb n,gm n] W3 W5 from lA.out.stay kE);clear kE;go_wp2_with (first|refine bu (b:=b6) (x:=zRs) (v:=zV) (y:=bw 0) (u:=zV) rfl _ _ rfl rfl rfl rfl (aw (lF.out W3 HS.out) qJ.out (by have h1:=HB.out;have h2:=kR.out (gb n) (.inr (.inr (.inr (.inr ⟨n,p,HP.out,.inl rfl⟩))));have h3:=kR.out (gm n) (.inr (.inr (.inr (.inr ⟨n,p,HP.out,.inr rfl⟩))));simp;omega)) ?_;intro W6 h6 kF);refine bodyPost_ret (v:=.agg (rsc (bw 0) zV)) (results_cell_row (p:=6) (ty:=40) rfl _ _ b6 40 _ (0,0) _ rfl h6 Tryz.underlying40 rfl dq) rfl ?_;obtain rfl:RR = (bw 0,some { M with pr:=upd M.pr n (some { p with pg:=upd p.pg ((A / 256:Nat):Int) (some (di (jl p ((A / 256:Nat):Int)) (A % 256) x.l)) }) }):=(by rw [kH.out,ag (by rw [← mZ.out];decide),ag (by rw [← mZ.out];decide)]);refine ⟨none,0,0,rfl,RE.nil ucl 1 _ none 0,fun _ hk=>(cw hk).elim,⟨sp,(upN gs n (stS (gs n) A x.l x.l.length)),?_⟩,?_⟩
    ·show WIn W6 m { M with pr:=upd M.pr n (some { p with pg:=upd p.pg ((A / 256:Nat):Int) (some (di (jl p ((A / 256:Nat):Int)) (A % 256) x.l)) }) } sp vo ve L E gb gm (upN gs n (stS (gs n) A x.l x.l.length));exact ((pT.out.stay kU.out)).new (B:=w.heap.size) (fun k hk=>kR.out k (hk.sub (nt HP.out _))) kF (fun y hy=>by obtain rfl:=aa hy;have:=HB.out;omega)
    ·exact (((kS.out.stay HS.out).up [m,gb n,gm n]).trans qJ.out (fun y hy=>.inl (by simp at hy;simp;omega))).trans kF (fun y hy=>.inr (by obtain rfl:=aa hy;have:=HB.out;omega))
def bdS (s:Sq) (g k m t:Nat):Sq:={ s with ow:=fun q=>if g≤q∧q < g+t then true else s.ow q,po:=fun q=>if g≤q∧q < g+t then (k,m) else s.po q }
theorem bdS_zero (s:Sq) (g k m:Nat):bdS s g k m 0 = s:=by
 obtain ⟨a1,a2,a3,a4,a5,a6⟩:=s;unfold bdS;simp only [Sq.mk.injEq,true_and,and_true];refine ⟨?_,?_⟩
 ·funext q;rw [ag (by omega)]
 ·funext q;rw [ag (by omega)]
theorem bdS_step (s:Sq) (g k m t:Nat):({ ({ bdS s g k m t with ow:=upN (bdS s g k m t).ow (g+t) true }:Sq) with po:=upN (bdS s g k m t).po (g+t) (k,m) }:Sq) = bdS s g k m (t+1):=by
 unfold bdS;simp only [Sq.mk.injEq,true_and,and_true];refine ⟨?_,?_⟩
 ·funext q;unfold upN;dsimp only;by_cases e:q = g+t
  ·rw [ah e,ah (by omega)]
  ·rw [ag e];by_cases e2:g≤q∧q < g+t
   ·rw [ah e2,ah (by omega)]
   ·rw [ag e2,ag (by omega)]
 ·funext q;unfold upN;dsimp only;by_cases e:q = g+t
  ·rw [ah e,ah (by omega)]
  ·rw [ag e];by_cases e2:g≤q∧q < g+t
   ·rw [ah e2,ah (by omega)]
   ·rw [ag e2,ag (by omega)]
theorem RelP.bind (h:RelP p s) (g c k m:Nat):RelP { p with ow:=fun q=>if inR g c q then some (k,m) else p.ow q } (bdS s g k m c):=by
 refine ⟨h.rt,h.by_,h.b8,fun q hq=>?_,fun q hq v hv=>?_,h.ak,h.am⟩
 ·show (if g≤q∧q < g+c then true else s.ow q) = ((if inR g c q then some (k,m) else p.ow q:Option (Nat × Nat))).isSome;by_cases e:g≤q∧q < g+c
  ·rw [ah e,show inR g c q = true from ae (by omega)];rfl
  ·rw [ag e,show inR g c q = false from ac (by omega)];exact h.ow q hq
 ·have sJ:(if inR g c q then some (k,m) else p.ow q:Option (Nat × Nat)) = some v:=hv;show (if g≤q∧q < g+c then (k,m) else s.po q) = v;by_cases e:g≤q∧q < g+c
  ·rw [show inR g c q = true from ae (by omega)] at sJ;rw [ah e];exact aq sJ
  ·rw [show inR g c q = false from ac (by omega)] at sJ;rw [ag e];exact h.po q hq v sJ
variable {k:Nat}
theorem gL {a:Act} {b:Nat} {bm i:Nat} (x y:Operand) (ho:o.op = .store 45 x y) (hx:a.eval x = .pointer (some ⟨b,2049+i * 2,none⟩)) (hy:a.eval y = .agg #[.int .u8 k,.int .u8 m]) (h0:QB w b s bm) (hi:i < 1024)
  (h:∀w',QB w' b { s with po:=upN s.po i (k,m) } bm→Chg [b] w w'→K (a.put o.dst undef) w'):o.wp Tryz.prog a w K Q :=
 wp_store_mid 45 x y ho b (2049+i * 2) #[.int .u8 k,.int .u8 m] hx hy (fun j hj=>by
  have sH:j < 2:=hj
  refine ⟨?_,Blk.frozen h0 _⟩
  match j,sH with
  | 0,_=>rw [Nat.add_zero,(QB.po h0 hi).1];rfl
  | 1,_=>rw [(QB.po h0 hi).2];rfl) kv (by simp [show ∀k z,(Value.int k z).oneCell' = true from fun _ _=>rfl]) (h _ (QB.set_po h0 hi k m) (((av [b] w).setCell (p:=⟨b,2049+i * 2,none⟩) (.inl (by simp)) _).setCell (p:=⟨b,2049+i * 2+1,none⟩) (.inl (by simp)) _))
theorem dU (h:WIn w m M sp vo ve L E gb gm gs) (kG:∀k,FW' M m vo ve L gb gm k→k < w.heap.size)
  {x:Cl} (hx:x.Ok) {n:Nat} (mK:x.p = n) {p:Pr} (hp:M.pr n = some p) (hs:Ar.Sp p.rl) (hk:x.k = 15) {g:Nat} (hg:x.g = g) {c:Nat} (hc:x.c = c) (kO:1≤c) (Db:g+c≤1024) (v:Value) (hv:v.oneCell' = true) :
  Calls Tryz.prog 77 #[.pointer (some ⟨m,0,none⟩),.pointer (some ⟨gb n,0,none⟩),.agg (clc x v)] w fun e w'=>SpR w w' m M vo ve L E gb gm n (dc M x 0 p) e:=by
 obtain ⟨n1,n8⟩:=h.rng n p hp;have nQ:n < 9:=by omega
 have hR:dc M x 0 p = (if Ar.mdE p.rl g c≠0 then (bw 7,none) else (bw 0,some { M with pr:=upd M.pr n (some { p with ow:=fun q=>if inR g c q then some (x.ok,x.om) else p.ow q }) })):=by
  unfold dc;rw [ag (by omega),ag (by omega),ag (by omega),ag (by omega),ag (by omega),show max x.c 1 = (c:Int) by omega,hg,hc,mK];split
  ·rfl
  ·rw [ag (by omega)]
 obtain ⟨RR,lJ⟩:∃R,R = dc M x 0 p:=⟨_,rfl⟩;rw [← lJ];rw [hR] at lJ;have kH:=bk lJ;clear hR lJ;obtain ⟨W1,kP⟩:∃W1,W1 = w.alloc (.cells (clc x v) 47):=⟨_,rfl⟩;obtain ⟨W2,kJ⟩:∃W2,W2 = W1.alloc (.cells (rsc zRs zV) 40):=⟨_,rfl⟩;have c01:Chg [] w W1:=by rw [kP];exact (av [] w).alloc _
 have c12:Chg [] W1 W2:=by rw [kJ];exact (av [] W1).alloc _
 have lM:KB W2 w.heap.size x v:=bh (by rw [kP];exact ax w _ _) c12;have lW:XB W2 W1.heap.size zRs zV:=by rw [kJ];exact ax W1 _ _
 have e1:W1.heap.size = w.heap.size+1:=by rw [kP];exact af _ _
 obtain ⟨b3,lD⟩:∃y,y = w.heap.size:=⟨_,rfl⟩;obtain ⟨b6,mF⟩:∃y,y = W1.heap.size:=⟨_,rfl⟩;rw [← lD] at lM;rw [← mF] at lW;have HI:=bk (fun W (hc:Chg [] W2 W)=>h.stay ((c01.stay c12).stay hc));have mC:=bk (fun W (hc:Chg [] W2 W)=>(bh lM hc:KB W b3 x v));have lF:=bk (fun W (hc:Chg [] W2 W)=>(bf lW hc:XB W b6 zRs zV));have kS:=bk (c01.stay c12);have mH:=bk kP;have kW:=bk kJ;have HB:=bk (show b3 = w.heap.size∧b6 = w.heap.size+1 by omega);have lI:=bk lD;have lS:=bk mF;have kR:=bk kG;have HP:=bk hp;have HN:=bk (show 1≤n∧n < 9 by omega);have nT:=bk (ai hk mK);have oX:=bk hx;have HG:=bk (ai hg (ai kO Db));have pX:=bk hc;have mS:=bk hs;clear h kG hx mK hp c01 c12 lM lW e1 lD mF kP kJ n1 n8 nQ hk hg hc kO Db hs;go_enter Tryz.func77,Tryz.ntmps77;go_upto_region 1 with (first|refine cc rfl _ rfl rfl ?_;try rw [← mH.out]|refine ck rfl rfl ?_;try rw [← kW.out])
 try rw [← lI.out,← lS.out]
 refine vc [0,1,0,1,0,0] ?_;have hS:Chg [] W2 W2.drew:=(av [] W2).drew;generalize W2.drew = W3 at hS ⊢;have HS:=bk hS;have hI:=HI.out W3 hS;obtain ⟨hq,mU,hrel⟩:=hI.pr n p HP.out;have oR:=bk hI;have HQ:=bk hq;have pE:=bk mU;have kX:=bk hrel;obtain ⟨r0,r1,-,r3,r4,r5,r6,r7,r8,r9,-,r11,rl,-⟩:=ay (mC.out W3 hS);rw [nT.out.1] at r0;rw [nT.out.2] at r1;have gl:=bb hq;have ml:=bb hI.blk;rw [HG.out.1] at r3;rw [pX.out] at r4;have nF:=bk (jm hq (p:=g) (c:=c) HG.out.2.2);clear hS hI hq mU hrel;go_wp2_with (first|refine cdA fun K U=>?_|refine bn fun K U=>?_;go_simp|refine bq ?_);refine nF.out.mono ?_;rintro e W4 ⟨⟨rfl,kY⟩ | ⟨rfl,lR⟩,rfl⟩
 case inr =>
  obtain rfl:RR = (bw 7,none):=by rw [kH.out];exact ah (by rw [cZ kX.out mS.out HG.out.2.1 HG.out.2.2 lR];decide)
  clear lR nF;go_wp2_with fail;refine (ei 7 _).mono ?_;rintro e W5 ⟨rfl,kE⟩;have kV:=bk kE;clear kE;go_wp2_with (first|refine bu (b:=b6) (x:=zRs) (v:=zV) (y:=bw 7) (u:=zV) rfl _ _ rfl rfl rfl rfl (bf (lF.out W3 HS.out) kV.out) ?_;intro W6 h6 kF);refine bodyPost_ret (v:=.agg (rsc (bw 7) zV)) (results_cell_row (p:=6) (ty:=40) rfl _ _ b6 40 _ (0,0) _ rfl h6 Tryz.underlying40 rfl dq) rfl ?_;refine ⟨none,0,0,rfl,RE.nil ucl 1 _ none 0,fun _ hk=>(cw hk).elim,⟨sp,gs,?_⟩,?_⟩
  ·exact (oR.out.stay kV.out).new (B:=w.heap.size) kR.out kF (fun y hy=>by obtain rfl:=aa hy;have:=HB.out;omega)
  ·exact (((kS.out.stay HS.out).stay kV.out).up [m,gb n,gm n]).trans kF (fun y hy=>.inr (by obtain rfl:=aa hy;have:=HB.out;omega))
 obtain rfl:RR = (bw 0,some { M with pr:=upd M.pr n (some { p with ow:=fun q=>if inR g c q then some (x.ok,x.om) else p.ow q }) }):=by rw [kH.out];exact ag (fun hn=>hn (xo kX.out mS.out HG.out.2.1 HG.out.2.2 kY))
 clear kY nF;have pR:=bk (show gb n∉[gm n] from by simp;exact bj HQ.out pE.out);have qL:=bk (show b3∉[gb n] from by have h1:=HB.out;have h3:=kR.out (gb n) (.inr (.inr (.inr (.inr ⟨n,p,HP.out,.inl rfl⟩))));simp;omega);have hwe:IntKind.i64.wrap ((g:Int)+(c:Int)) = (g:Int)+(c:Int):=by rw [IntKind.wrap_i64];have:=HG.out;omega
 go_upto_region 26 with (fail)
 go_loopw [9] (fun iv wr=>∃t:Nat,t≤c∧iv = .int .i64 ((g+t:Nat):Int)∧Hid (QB wr (gb n) (bdS (gs n) g x.ok x.om t) (gm n))∧Hid (Chg [gb n] W3 wr)) (fun iv _=>g+c - (intOf iv).toNat)
 case atStart=>exact ⟨0,by omega,by simp,bk (by rw [bdS_zero];exact HQ.out),bk (av _ _)⟩
 case round =>
  obtain ⟨t,ht,rfl,ED,lN⟩:=hrel;clear r0 r1 r3 r4 r5 r6 r7 r8 r9 r11 rl gl ml;by_cases kG:t < c
  ·have nS:=bk kG;have dl:decide (((g+t:Nat):Int) < (g:Int)+(c:Int)) = true:=ae (by omega);have i0:(0:Int)≤((g+t:Nat):Int):=(by omega);have i1:((g+t:Nat):Int) < 1024:=(by have:=HG.out;omega);have oW:IntKind.i64.wrap (((g+t:Nat):Int)+1) = ((g+t:Nat):Int)+1:=(by rw [IntKind.wrap_i64];have:=HG.out;omega);have rS:g+t < 1024:=(by have:=HG.out;omega);have HGT:=bk rS;have Cv:=QB.ow ED.out rS;have xI:=Blk.frozen ED.out (1025+(g+t));have FI:=bb ED.out;clear ht kG rS;go_upto_region 29 with (fail)
   clear Cv xI FI;refine rgt [0,0,0,5,0,0,0,3] [none,none,none,none,none,none,none,none] (fun W=>KB W b3 x v) ?_;have AX:=bk (Blk.drew (QB.set_ow ED.out HGT.out true));have kZ:Chg [gb n] wr (wr.setCell ⟨gb n,1025+(g+t),none⟩ (.bool true)).drew:=((av [gb n] wr).setCell (p:=⟨gb n,1025+(g+t),none⟩) (.inl (by simp)) _).drew;generalize (wr.setCell ⟨gb n,1025+(g+t),none⟩ (.bool true)).drew = W4 at kZ AX ⊢;have lA:=bk (lN.out.and_ kZ);clear lN kZ ED;have hS:KB W4 b3 x v:=aw (mC.out W3 HS.out) lA.out qL.out;have FI:=bb AX.out;go_wp2_with (first|refine ca 45 _ rfl rfl (fun w' kK=>aL kK) hS ?_|refine dy fun K U=>?_;refine gL (i:=g+t) (k:=x.ok) (m:=x.om) _ _ rfl rfl rfl AX.out HGT.out ?_;intro W7 h7 kN;have H7:=bk h7;have qD:=bk kN;clear h7 kN;refine U _ _ ?_;clear U K|refine cdA fun K U=>?_|refine bn fun K U=>?_;go_simp|refine bq ?_);clear hS FI;go_roundw
   case rel=>exact ⟨t+1,nS.out,by go_num,bk (by have:=H7.out;rw [bdS_step] at this;exact this),bk (lA.out.and_ qD.out)⟩
   case measure=>have:=nS.out;simp [intOf];omega
  ·obtain rfl:t = c:=(by omega);have dl:decide (((g+t:Nat):Int) < (g:Int)+(t:Int)) = false:=ac (by omega);clear kG ht;have pT:=bk (oR.out.put HP.out (lN.out.mono (fun y hy=>.inl (by simp at hy;simp [hy]))) ED.out (show MapB wr (gm n) .i64 (byF (bdS (gs n) g x.ok x.om t)) from pE.out.chg lN.out (by simp;exact fun e=>bj HQ.out pE.out e.symm)) (kX.out.bind g t x.ok x.om));have lA:=bk (show Chg [gb n,gm n] W3 wr from lN.out.mono (fun y hy=>.inl (by simp at hy;simp [hy])));clear lN ED;go_wp2_with fail;refine (ei 0 _).mono ?_;rintro e W5 ⟨rfl,kE⟩;have kU:=bk kE;have qJ:=bk (show Chg [gb n,gm n] W3 W5 from lA.out.stay kE);clear kE;go_wp2_with (first|refine bu (b:=b6) (x:=zRs) (v:=zV) (y:=bw 0) (u:=zV) rfl _ _ rfl rfl rfl rfl (aw (lF.out W3 HS.out) qJ.out (by have h1:=HB.out;have h2:=kR.out (gb n) (.inr (.inr (.inr (.inr ⟨n,p,HP.out,.inl rfl⟩))));have h3:=kR.out (gm n) (.inr (.inr (.inr (.inr ⟨n,p,HP.out,.inr rfl⟩))));simp;omega)) ?_;intro W6 h6 kF);refine bodyPost_ret (v:=.agg (rsc (bw 0) zV)) (results_cell_row (p:=6) (ty:=40) rfl _ _ b6 40 _ (0,0) _ rfl h6 Tryz.underlying40 rfl dq) rfl ?_;refine ⟨none,0,0,rfl,RE.nil ucl 1 _ none 0,fun _ hk=>(cw hk).elim,⟨sp,(upN gs n (bdS (gs n) g x.ok x.om t)),?_⟩,?_⟩
   ·show WIn W6 m { M with pr:=upd M.pr n (some { p with ow:=fun q=>if inR g t q then some (x.ok,x.om) else p.ow q }) } sp vo ve L E gb gm (upN gs n (bdS (gs n) g x.ok x.om t));exact ((pT.out.stay kU.out)).new (B:=w.heap.size) (fun k hk=>kR.out k (hk.sub (nt HP.out _))) kF (fun y hy=>by obtain rfl:=aa hy;have:=HB.out;omega)
   ·exact (((kS.out.stay HS.out).up [m,gb n,gm n]).trans qJ.out (fun y hy=>.inl (by simp at hy;simp;omega))).trans kF (fun y hy=>.inr (by obtain rfl:=aa hy;have:=HB.out;omega))
theorem find_lt (rA:L.Pairwise fun a b=>a.h≠b.h) (hk:k < L.length):(L.find? fun o=>decide ((o.h:Int) = (L[k].h:Int))) = some L[k]:=by rw [List.find?_eq_some_iff_getElem];refine ⟨by simp,k,hk,rfl,fun j hj=>?_⟩;have:=List.pairwise_iff_getElem.1 rA j k (by omega) hk hj;have h2:¬ ((L[j].h:Int) = (L[k].h:Int)):=fun e=>this (by omega);simp [h2]
theorem wl {z:Int} (h:∀o∈L,(o.h:Int)≠z):(L.find? fun o=>decide ((o.h:Int) = z)) = none:=by rw [List.find?_eq_none];intro o ho;simpa using h o ho
theorem rj (hk:k < L.length):L = L.take k ++ L[k] :: L.drop (k+1):=by rw [List.getElem_cons_drop,List.take_append_drop]
theorem vd (hk:k < L.length) (x:Ob):L.set k x = L.take k ++ x :: L.drop (k+1):=by rw [List.set_eq_take_append_cons_drop,ah hk]
section
variable {w w':World} {vo:Value} {L:List Ob} {ob:Int→Option (List Nat)}
theorem OIn.none_ (h:OIn w vo L ob) {z:Nat} (hz:∀o∈L,o.h≠z):ob (z:Int) = none:=by rw [h.lk,wl (fun o ho e=>hz o ho (by omega))];rfl
theorem OIn.at_ (h:OIn w vo L ob) {k:Nat} (hk:k < L.length):ob (L[k].h:Int) = some L[k].l:=by rw [h.lk,find_lt h.nd hk];rfl
theorem OIn.none_iff (h:OIn w vo L ob) {z:Nat} (hz:ob (z:Int) = none):∀o∈L,o.h≠z:=by intro o ho e;obtain ⟨k,hk,rfl⟩:=List.getElem_of_mem ho;have:=h.at_ hk;rw [e,hz] at this;cases this
theorem OIn.del (h:OIn w vo L ob) {k:Nat} (hk:k < L.length) {vo':Value} (hs:SE obl 2 92 w' vo' (L.take k ++ L.drop (k+1))) (hc:Chg [] w w'):OIn w' vo' (L.take k ++ L.drop (k+1)) (upd ob (L[k].h:Int) none):=by
 have sub:∀o∈L.take k ++ L.drop (k+1),o∈L:=fun o ho=>by
  rcases List.mem_append.1 ho with ho | ho
  ·exact List.mem_of_mem_take ho
  ·exact List.mem_of_mem_drop ho
 have sl:(L.take k ++ L.drop (k+1)).Sublist L:=by rw [← List.eraseIdx_eq_take_drop_succ];exact List.eraseIdx_sublist ..
 refine ⟨hs,fun o ho=>⟨SE.stay (h.bt o (sub o ho)).1 hc,(h.bt o (sub o ho)).2⟩,h.nd.sublist sl,h.ap.sublist sl,fun z=>?_⟩;unfold upd;by_cases e:z = (L[k].h:Int)
 ·rw [ah e,wl]
  ·rfl
  ·intro o ho e2;have hn:=h.nd;rw [rj hk] at hn;rw [List.pairwise_append] at hn;obtain ⟨n1,n2,n3⟩:=hn;rw [List.pairwise_cons] at n2;rcases List.mem_append.1 ho with ho | ho
   ·exact n3 o ho L[k] (List.mem_cons_self ..) (by omega)
   ·exact n2.1 o ho (by omega)
 ·rw [ag e,h.lk];have e1:(L.find? fun o=>decide ((o.h:Int) = z)) = (L.take k ++ L[k] :: L.drop (k+1)).find? fun o=>decide ((o.h:Int) = z):=by rw [← rj hk]
  rw [e1,List.find?_append,List.find?_append,List.find?_cons_of_neg];simp;omega
theorem find_set {k:Nat} (hk:k < L.length) (B:List Nat) (v:Value) (z:Int) (rA:L.Pairwise fun a b=>a.h≠b.h) (qE:∀z:Int,ob z = (L.find? fun o=>decide ((o.h:Int) = z)).map (·.l)):upd ob (L[k].h:Int) (some B) z = ((L.set k ⟨L[k].h,B,v⟩).find? fun o=>decide ((o.h:Int) = z)).map (·.l):=by
 unfold upd;rw [vd hk,List.find?_append];have hn:=rA;rw [rj hk,List.pairwise_append] at hn;obtain ⟨n1,n2,n3⟩:=hn;by_cases e:z = (L[k].h:Int)
 ·rw [ah e,wl,List.find?_cons_of_pos]
  ·rfl
  ·simp [e]
  ·intro o ho e2;exact n3 o ho L[k] (List.mem_cons_self ..) (by omega)
 ·rw [ag e,qE];have e1:(L.find? fun o=>decide ((o.h:Int) = z)) = (L.take k ++ L[k] :: L.drop (k+1)).find? fun o=>decide ((o.h:Int) = z):=by rw [← rj hk]
  have e3:¬ ((L[k].h:Int) = z):=fun x=>e x.symm;rw [e1,List.find?_append,List.find?_cons_of_neg,List.find?_cons_of_neg]
  ·simpa using e3
  ·simpa using e3
theorem OIn.poke (h:OIn w vo L ob) {k:Nat} (hk:k < L.length) {g off n c j y:Nat} (hv:L[k].v = .slice (some ⟨g,off,none⟩) n c) (hj:j < L[k].l.length) (hy:y < 256) :
  OIn (w.setCell ⟨g,off+j,none⟩ (.int .u8 (y:Nat))) vo (L.set k ⟨L[k].h,L[k].l.set j y,L[k].v⟩) (upd ob (L[k].h:Int) (some (L[k].l.set j y))):=by
 have hg:g∈own L[k].v:=by rw [hv];exact fd ▸ List.mem_singleton.2 rfl
 obtain ⟨b1,b2,b3⟩:=h.bt L[k] (ao hk);have hc:Chg [g] w (w.setCell ⟨g,off+j,none⟩ (.int .u8 (y:Nat))):=(av [g] w).setCell (p:=⟨g,off+j,none⟩) (.inl (by simp)) _;have hnb:SB (w.setCell ⟨g,off+j,none⟩ (.int .u8 (y:Nat))) L[k].v (L[k].l.set j y):=by
  rw [hv] at b1 ⊢;have:=SE.set (size:=1) (enc:=ucl) (fun _=>rfl) b1 (k:=j) (j:=0) hj Nat.zero_lt_one (u:=.int .u8 (y:Nat)) (x:=y) rfl;rw [Nat.mul_one,Nat.add_zero] at this;exact this
 have oth:∀i (hi:i < L.length),i≠k→∀q∈own L[i].v,q∉own L[k].v:=fun i hi kT q hq rB=>by
  rcases Nat.lt_or_gt_of_ne kT with kG | kG
  ·exact List.pairwise_iff_getElem.1 h.ap i k hi hk kG q hq rB
  ·exact List.pairwise_iff_getElem.1 h.ap k i hk hi kG q rB hq
 obtain ⟨gl,tO⟩:=Sl.blk b1 hg;refine ⟨?_,fun o ho=>?_,?_,?_,fun z=>find_set hk _ _ z h.nd h.lk⟩
 ·have h1:=SE.chg h.sl hc (fun q hq=>by
   simp
   intro e
   subst e
   obtain ⟨cur,wL⟩:=Sl.blk h.sl hq
   exact Blk.ne_ wL tO (by decide) rfl)
  have e:fc obl (L.set k ⟨L[k].h,L[k].l.set j y,L[k].v⟩) = fc obl L:=by
   refine List.ext_getElem? fun i=>?_;unfold fc;rw [vd hk,List.flatMap_append,List.flatMap_cons]
   conv=>rhs;rw [rj hk,List.flatMap_append,List.flatMap_cons]
   rfl
  unfold SE at h1 ⊢;rw [e,List.length_set];exact h1
 ·obtain ⟨i,hi,rfl⟩:=List.getElem_of_mem ho;rw [List.length_set] at hi;rw [List.getElem_set];split
  ·exact ⟨hnb,fun x hx=>(List.mem_or_eq_of_mem_set hx).elim (b2 x) (fun e=>by omega),b3⟩
  ·rename_i kT;obtain ⟨c1,c2⟩:=h.bt L[i] (ao hi);exact ⟨SE.chg c1 hc (fun q hq rB=>by obtain rfl:=aa rB;exact oth i hi (fun e=>kT e.symm) _ hq hg),c2⟩
 ·rw [List.pairwise_iff_getElem];intro i i' hi rT kG;rw [List.length_set] at hi rT;have:=List.pairwise_iff_getElem.1 h.nd i i' hi rT kG;rw [List.getElem_set,List.getElem_set];split <;> split <;> simp_all
 ·rw [List.pairwise_iff_getElem];intro i i' hi rT kG;rw [List.length_set] at hi rT;have:=List.pairwise_iff_getElem.1 h.ap i i' hi rT kG;rw [List.getElem_set,List.getElem_set];split <;> split <;> simp_all
end
section
variable {w w':World} {m:Nat} {M:Mo} {sp:Nat→Option Nat} {vo ve:Value} {L:List Ob} {E:List Nat} {gb gm:Nat→Nat} {gs:Nat→Sq}
theorem WIn.other (h:WIn w m M sp vo ve L E gb gm gs) {g:Nat} (hc:Chg [g] w w') {t:TypeId} {cs:Array Value} (hg:Blk w g t cs) (t2:37≠t) (t3:100≠t) {vo':Value} {L':List Ob} {ob':Int→Option (List Nat)} (ho:OIn w' vo' L' ob') (hb:WB w' m M.c sp vo' ve) :
  WIn w' m { M with ob:=ob' } sp vo' ve L' E gb gm gs:=by
 refine ⟨hb,ho,h.ev.chg hc (fun q hq=>?_),h.sp,h.rng,fun n p hp=>?_,h.ib⟩
 ·simp;rintro rfl;obtain ⟨cur,wL⟩:=Sl.blk h.ev.sl hq;exact Blk.ne_ wL hg t2 rfl
 ·obtain ⟨c1,c2,c3⟩:=h.pr n p hp;exact ⟨aw c1 hc (by simp;exact Blk.ne_ c1 hg t3),c2.chg hc (by simp;exact fun e=>bj hg c2 e.symm),c3⟩
theorem WIn.poke (h:WIn w m M sp vo ve L E gb gm gs) {k:Nat} (hk:k < L.length) {g off n c j y:Nat} (hv:L[k].v = .slice (some ⟨g,off,none⟩) n c) (hj:j < L[k].l.length) (hy:y < 256) :
  WIn (w.setCell ⟨g,off+j,none⟩ (.int .u8 (y:Nat))) m { M with ob:=upd M.ob (L[k].h:Int) (some (L[k].l.set j y)) } sp vo ve (L.set k ⟨L[k].h,L[k].l.set j y,L[k].v⟩) E gb gm gs:=by
 have hg:g∈own L[k].v:=by rw [hv];exact fd ▸ List.mem_singleton.2 rfl
 obtain ⟨gl,tO⟩:=Sl.blk (h.ob.bt L[k] (ao hk)).1 hg;have hc:Chg [g] w (w.setCell ⟨g,off+j,none⟩ (.int .u8 (y:Nat))):=(av [g] w).setCell (p:=⟨g,off+j,none⟩) (.inl (by simp)) _;exact h.other hc tO (by decide) (by decide) (h.ob.poke hk hv hj hy) (aw h.blk hc (by simp;exact Blk.ne_ h.blk tO (by decide)))
end
theorem dY {b:List Nat} {a t:Nat} (h:a+l.length≤b.length) (ht:t < l.length):(di b a (l.take t)).set (a+t) l[t] = di b a (l.take (t+1)):=by
 refine List.ext_getElem? fun i=>?_;have hl:∀u,u≤l.length→(di b a (l.take u)).length = b.length:=fun u hu=>by unfold di;simp;omega
 rw [List.getElem?_set];have g1:=tn (b:=b) (l:=l.take t) (a:=a) (i:=i) (by rw [List.length_take];omega);have g2:=tn (b:=b) (l:=l.take (t+1)) (a:=a) (i:=i) (by rw [List.length_take];omega);rw [List.length_take] at g1 g2;by_cases hi:i < b.length
 ·rw [List.getD_eq_getElem?_getD,List.getElem?_eq_getElem (by rw [hl t (by omega)];exact hi),Option.getD_some] at g1;rw [List.getD_eq_getElem?_getD,List.getElem?_eq_getElem (by rw [hl (t+1) (by omega)];exact hi),Option.getD_some] at g2;rw [List.getElem?_eq_getElem (by rw [hl t (by omega)];exact hi),List.getElem?_eq_getElem (by rw [hl (t+1) (by omega)];exact hi),g1,g2];by_cases e:a+t = i
  ·rw [ah e,ah (by rw [hl t (by omega)];omega),ah (by omega),show i - a = t by omega,List.getD_eq_getElem?_getD,List.getElem?_take,ah (by omega),List.getElem?_eq_getElem ht];rfl
  ·rw [ag e];by_cases e2:a≤i∧i < a+min t l.length
   ·rw [ah e2,ah (by omega),List.getD_eq_getElem?_getD,List.getD_eq_getElem?_getD,List.getElem?_take,List.getElem?_take,ah (by omega),ah (by omega)]
   ·rw [ag e2,ag (by omega)]
 ·rw [List.getElem?_eq_none (by rw [hl t (by omega)];omega),List.getElem?_eq_none (by rw [hl (t+1) (by omega)];omega)];split
  ·rw [ag (by rw [hl t (by omega)];omega)]
  ·rfl
theorem vx (b:List Nat) (a:Nat) (l:List Nat):di b a (l.take 0) = b:=by unfold di;simp
def DoR (w w':World) (m:Nat) (M:Mo) (vo ve:Value) (L:List Ob) (E:List Nat) (gb gm:Nat→Nat) (R:Rs × Option Mo) (e:Ending):Prop :=
 ∃A k c,e = .returned (.agg (rsc R.1 (.slice A k c)))∧RB w' (.slice A k c) R.1.l∧(∀i∈own (.slice A k c),w.heap.size≤i)∧CP (FW' M m vo ve L gb gm) w w' ∧
  ∃sp' vo' L' gb' gm' gs',WIn w' m (if R.1.e = 0 then R.2.getD M else M) sp' vo' ve L' E gb' gm' gs'∧L'.length≤L.length ∧
   ∀k,FW' (if R.1.e = 0 then R.2.getD M else M) m vo' ve L' gb' gm' k→(FW' M m vo ve L gb gm k∧k < w'.heap.size)∨(w.heap.size≤k∧k < w'.heap.size)
theorem proc_sub {M':Mo} {v:Nat} (hp:M.pr x.p = some p) (h:(dc M x v p).2 = some M'):(∀i q,M'.pr i = some q→∃q',M.pr i = some q'):=by
 have key:∀(o:Option Pr) i q,upd M.pr x.p o i = some q→∃q',M.pr i = some q':=fun o i q hq=>by
  unfold upd at hq;split at hq
  ·rename_i e;exact ⟨p,by rw [e];exact hp⟩
  ·exact ⟨q,hq⟩
 unfold dc at h
 repeat' split at h
 all_goals first
  | (obtain rfl:=aq h;exact key _)
  | (cases h;done)
  | (rw [Option.map_eq_some_iff] at h;obtain ⟨q,_,rfl⟩:=h;exact key _)
  | (obtain rfl:=aq h;exact fun i q hq=>⟨q,hq⟩)
theorem SpR.do_ {w':World} {n:Nat} {e:Ending} (kG:∀k,FW' M m vo ve L gb gm k→k < w.heap.size) (mK:x.p = n) (hp:M.pr n = some p) (h:SpR w w' m M vo ve L E gb gm n (dc M x 0 p) e):DoR w w' m M vo ve L E gb gm (dc M x 0 p) e:=by
 obtain ⟨A,k,c,h1,h2,h3,⟨sp',gs',h4⟩,h5⟩:=h;refine ⟨A,k,c,h1,h2,h3,CP.of h5 (fun y hy=>.inl ?_),sp',vo,L,gb,gm,gs',h4,Nat.le_refl _,fun y hy=>.inl ?_⟩
 ·simp at hy;rcases hy with rfl | rfl | rfl
  ·exact .inl rfl
  ·exact .inr (.inr (.inr (.inr ⟨n,p,hp,.inl rfl⟩)))
  ·exact .inr (.inr (.inr (.inr ⟨n,p,hp,.inr rfl⟩)))
 ·have hs:∀(i:Nat) q,(if (dc M x 0 p).1.e = 0 then (dc M x 0 p).2.getD M else M).pr i = some q→∃q',M.pr i = some q':=fun i q hq=>by
   split at hq
   ·cases hN:(dc M x 0 p).2 with
    | none=>rw [hN] at hq;exact ⟨q,hq⟩
    | some M' =>
     rw [hN] at hq
     exact proc_sub (by rw [mK];exact hp) hN i q hq
   ·exact ⟨q,hq⟩
  have:=hy.sub hs;exact ⟨this,al (kG y this) h5.size⟩
theorem jY (h:WIn w m M sp vo ve L E gb gm gs) (kG:∀k,FW' M m vo ve L gb gm k→k < w.heap.size)
  {x:Cl} (hx:x.Ok) {n:Nat} (mK:x.p = n) {p:Pr} (hp:M.pr n = some p) (oV:MoOk M) (hw:dr M.c x = false) (hk:x.k≠1∧x.k≠10∧x.k≠11∧x.k≠12∧x.k≠13∧x.k≠19∧x.k≠20∧x.k≠21) (v:Value) (hv:v.oneCell' = true) (hvb:RB w v x.l) :
  Calls Tryz.prog 77 #[.pointer (some ⟨m,0,none⟩),.pointer (some ⟨gb n,0,none⟩),.agg (clc x v)] w fun e w'=>DoR w w' m M vo ve L E gb gm (dc M x 0 p) e:=by
 have key:Calls Tryz.prog 77 #[.pointer (some ⟨m,0,none⟩),.pointer (some ⟨gb n,0,none⟩),.agg (clc x v)] w fun e w'=>SpR w w' m M vo ve L E gb gm n (dc M x 0 p) e:=by
  obtain ⟨-,hs,kQ,yG,FH,wU,how⟩:=oV.pr n p hp;have hc:∀k,x.k = k→(fld k).contains 99 = true→1≤x.c∧x.c≤1024∧0≤x.g∧x.g≤1024 - x.c:=fun k hk h=>rh hw (by rw [gw hk];exact h);have hg:∀k,x.k = k→(fld k).contains 103 = true→0≤x.g∧x.g≤1023:=fun k hk h=>nw_page hw (by rw [gw hk];exact h);have hr:∀k,x.k = k→(fld k).contains 114 = true→1≤x.r∧x.r≤3:=fun k hk h=>nw_right hw (by rw [gw hk];exact h);obtain ⟨k1,k2⟩:=iG hw;have sG:x.k = 2∨x.k = 3∨x.k = 4∨x.k = 5∨x.k = 6∨x.k = 7∨x.k = 8∨x.k = 9∨x.k = 14∨x.k = 15∨x.k = 16∨x.k = 17∨x.k = 18:=by omega
  rcases sG with hk | hk | hk | hk | hk | hk | hk | hk | hk | hk | hk | hk | hk
  ·exact fZ h kG hx mK hp hk v hv
  ·have h1:=hc _ hk rfl;exact gB h kG hx mK hp hs hk (by omega) (hr _ hk rfl) v hv
  ·have h1:=hc _ hk rfl;exact gC h kG hx mK hp hs hk (by omega) v hv
  ·have h1:=hc _ hk rfl;exact gD h kG hx mK hp hs hk (by omega) (hr _ hk rfl) v hv
  ·have h1:=hc _ hk rfl;exact gE h kG hx mK hp hs hk (g:=x.g.toNat) (by omega) (c:=x.c.toNat) (by omega) (by omega) (by omega) v hv
  ·have h1:=hc _ hk rfl;exact gF h kG hx mK hp hs hk (g:=x.g.toNat) (by omega) (c:=x.c.toNat) (by omega) (by omega) (by omega) v hv
  ·obtain ⟨a1,a2,a3,a4⟩:=iH hw hk;exact gG h kG hx mK hp hs kQ hk (A:=x.a.toNat) (S:=x.s.toNat) (by omega) (by omega) (by omega) (by omega) (by omega) v hv
  ·obtain ⟨a1,a2,a3,a4⟩:=dC hw hk;exact gH h kG hx mK hp hs kQ hk (A:=x.a.toNat) (by omega) (by omega) (by omega) (by omega) hx.l v hv hvb
  ·exact dT h kG hx mK hp hk v hv
  ·have h1:=hc _ hk rfl;exact dU h kG hx mK hp hs hk (g:=x.g.toNat) (by omega) (c:=x.c.toNat) (by omega) (by omega) (by omega) v hv
  ·have h1:=hg _ hk rfl;exact dV h kG hx mK hp ⟨FH,wU,how⟩ hk (g:=x.g.toNat) (by omega) (by omega) v hv
  ·have h1:=hg _ hk rfl;exact dW h kG hx mK hp hs hk (g:=x.g.toNat) (by omega) (by omega) (may_c (gz hw).2.1 (by rw [gw hk];rfl)) v hv
  ·have h1:=hc _ hk rfl;exact dX h kG hx mK hp hs hk (g:=x.g.toNat) (by omega) (c:=x.c.toNat) (by omega) (by omega) (by omega) v hv
 exact key.mono fun e w' hS=>hS.do_ kG mK hp
