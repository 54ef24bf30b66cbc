/- Texts merged for the claim. -/
import Derived.Test.YtfoleblcaloeoaaGreatDoorZbk
set_option maxHeartbeats 40000000
set_option maxRecDepth 20000
namespace Go.Proofs.YtfoleblcaloeoaaGreatDoor
open Go Go.RowKit
theorem rb {o:Oper} {a:Act} {w:World} {K:Act→World→Prop} {Q:Exit→Act→World→Prop} (s x:Operand)
  (ho:o.op = .call { callee:=.builtin .append,args:=#[s,x],argTypes:=#[38,38] }) (v y:Value) (hs:a.eval s = v) (hx:a.eval x = y) {l m:List Nat} (hv:SB w v l) (hy:RB w y m) (jN:l.length+m.length≤1000000)
  (h:∀A n c w',Hid (n = (l ++ m).length)→SB w' (.slice A n c) (l ++ m)→Chg (own v) w w'→Grow w v (.slice A n c)→K (a.put o.dst (.slice A n c)) w'):o.wp Tryz.prog a w K Q:=by
 obtain ⟨i5,hi,hz,vP,yX⟩:=info_parts info5b
 refine ll s x 38 ho 5 Tryz.underlying38 hi hz vP yX rfl hs hv hx hy (vq m) (by unfold maxLen;omega) (by omega) fun v' w' h2 h3 h4=>?_
 have oG:SB w' v' (l ++ m):=by
  unfold SB SE
  rw [List.length_append,lq]
  exact h2
 obtain ⟨A,c,rfl⟩:=oG.form
 exact h A _ c w' rfl oG h3 (rj h4)
def ik (s:Sq) (A t:Nat):List Nat:=(List.range t).map fun j=>(s.by_ ((A+j:Nat):Int)).getD 0
theorem uo (s:Sq) (A t:Nat):ik s A (t+1) = ik s A t ++ [(s.by_ ((A+t:Nat):Int)).getD 0]:=by unfold ik;rw [List.range_succ,List.map_append];rfl
theorem we (s:Sq) (A t:Nat):(ik s A t).length = t:=by unfold ik;simp
theorem yt {p:Pr} {s:Sq} (h:RelP p s) {A S:Nat} (hA:A < 262144) (hS:A % 256+S≤256) (hl:(gj p ((A / 256:Nat):Int)).length = 256):ik s A S = ((gj p ((A / 256:Nat):Int)).drop (A % 256)).take S:=by
 refine List.ext_getElem? fun i=>?_
 unfold ik
 by_cases hi:i < S
 ·rw [List.getElem?_map,List.getElem?_range hi,List.getElem?_take,if_pos hi,List.getElem?_drop]
  have h1:=h.by_ ((A+i:Nat):Int) (by omega) (by omega)
  have e1:((A+i:Nat):Int) / 256 = ((A / 256:Nat):Int):=by omega
  have e2:(((A+i:Nat):Int) % 256).toNat = A % 256+i:=by omega
  rw [e1,e2,List.getD_eq_getElem?_getD] at h1
  show some ((s.by_ ((A+i:Nat):Int)).getD 0) = _
  rw [h1,List.getElem?_eq_getElem (by omega)]
  rfl
 ·rw [List.getElem?_eq_none (by simp;omega),List.getElem?_eq_none (by rw [List.length_take];omega)]
theorem bM {A Pp:Nat} (h:A < 262144) (hp:Pp = A / 256):wrap64 ((A:Int).tdiv 256) = (Pp:Int)∧IntKind.i64.wrap ((A:Int).tdiv 256) = (Pp:Int):=by
 rw [Int.tdiv_eq_ediv_of_nonneg (by omega)]
 have e:(A:Int) / 256 = (Pp:Int):=by omega
 rw [e]
 exact ⟨by unfold wrap64;omega,by rw [IntKind.wrap_i64];omega⟩
theorem zero5:∀w,(zeroValue 5).run Tryz.prog w = .ok (.int .u8 0) w:=by
 have h:(Tryz.prog.info? 5).map (fun i=>(i.zero,i.size)) = some (some (.int .u8 0),1):=by kernel_rfl
 exact (zero_of_info h).1
theorem eX {w:World} {m:Nat} {M:Mo} {sp:Nat→Option Nat} {vo ve:Value} {L:List Ob} {E:List Nat} {gb gm:Nat→Nat} {gs:Nat→Sq} (h:WIn w m M sp vo ve L E gb gm gs) (jF:∀k,FW' M m vo ve L gb gm k→k < w.heap.size)
  {x:Cl} (hx:x.Ok) {n:Nat} (kX:x.p = n) {p:Pr} (hp:M.pr n = some p) (hs:Ar.Sp p.rl) (jN:∀q:Int,(gj p q).length = 256) (hk:x.k = 8) {A S:Nat} (ha:x.a = A) (hS:x.s = S) (ha8:A < 262144) (kT:1≤S) (haS:A % 256+S≤256) (v:Value) (hv:v.oneCell' = true) :
  Calls Tryz.prog 77 #[.pointer (some ⟨m,0,none⟩),.pointer (some ⟨gb n,0,none⟩),.agg (clc x v)] w fun e w'=>SpR w w' m M vo ve L E gb gm n (cd M x 0 p) e:=by
 obtain ⟨n1,n8⟩:=h.rng n p hp
 have mW:n < 9:=by omega
 have hR:cd M x 0 p = (if Ar.rt p.rl ((A / 256:Nat):Int) = 0 then aq 7 else if Ar.rt p.rl ((A / 256:Nat):Int) % 2 = 0 then aq 190 else ⟨0,0,((gj p ((A / 256:Nat):Int)).drop (A % 256)).take S⟩,none):=by
  have e1:x.a / 256 = ((A / 256:Nat):Int):=by omega
  have e2:(x.a % 256).toNat = A % 256:=by omega
  have e3:x.s.toNat = S:=by omega
  unfold cd
  rw [if_neg (by omega),if_neg (by omega),if_neg (by omega),if_neg (by omega),if_pos (by omega)]
  unfold cx
  simp only [e1,e2,e3]
  split
  ·rfl
  ·first|(split <;> rfl)|(rw [if_pos hk];split <;> rfl)
 obtain ⟨RR,kB⟩:∃R,R = cd M x 0 p:=⟨_,rfl⟩
 rw [← kB]
 rw [hR] at kB
 have jC:=ah kB
 clear hR kB
 obtain ⟨W1,jG⟩:∃W1,W1 = w.alloc (.cells (clc x v) 47):=⟨_,rfl⟩
 obtain ⟨W2,jB⟩:∃W2,W2 = W1.alloc (.cells (rsc zRs zV) 40):=⟨_,rfl⟩
 have c01:Chg [] w W1:=by rw [jG];exact (Chg.refl [] w).alloc _
 have c12:Chg [] W1 W2:=by rw [jB];exact (Chg.refl [] W1).alloc _
 have kG:KB W2 w.heap.size x v:=KB.stay (by rw [jG];exact Blk.new w _ _) c12
 have kJ:XB W2 W1.heap.size zRs zV:=by rw [jB];exact Blk.new W1 _ _
 have e1:W1.heap.size = w.heap.size+1:=by rw [jG];exact af _ _
 obtain ⟨b3,jS⟩:∃y,y = w.heap.size:=⟨_,rfl⟩
 obtain ⟨b6,kV⟩:∃y,y = W1.heap.size:=⟨_,rfl⟩
 rw [← jS] at kG
 rw [← kV] at kJ
 have HI:=ah (fun W (hc:Chg [] W2 W)=>h.stay ((c01.stay c12).stay hc))
 have kY:=ah (fun W (hc:Chg [] W2 W)=>(KB.stay kG hc:KB W b3 x v))
 have kD:=ah (fun W (hc:Chg [] W2 W)=>(XB.stay kJ hc:XB W b6 zRs zV))
 have jJ:=ah (c01.stay c12)
 have kW:=ah jG
 have jP:=ah jB
 have HB:=ah (show b3 = w.heap.size∧b6 = w.heap.size+1 by omega)
 have jY:=ah jS
 have kH:=ah kV
 have jK:=ah jF
 have HP:=ah hp
 have HN:=ah (show 1≤n∧n < 9 by omega)
 have mJ:=ah (And.intro hk kX)
 have pR:=ah hx
 have HA:=ah (show x.a = (A:Int)∧x.s = (S:Int)∧A < 262144∧1≤S∧A % 256+S≤256 from ⟨ha,hS,ha8,kT,haS⟩);have lI:=ah hs;have kI:=ah jN
 clear h jF hx kX hp c01 c12 kG kJ e1 jS kV jG jB n1 n8 mW hk ha hS ha8 kT haS hs jN
 go_enter Tryz.func77,Tryz.ntmps77
 go_upto_region 1 with (first|refine ax rfl _ rfl rfl ?_;try rw [← kW.out]|refine bn rfl rfl ?_;try rw [← jP.out])
 try rw [← jY.out,← kH.out]
 refine uh [0,1,0,1,0,0] ?_
 have hS:Chg [] W2 W2.drew:=(Chg.refl [] W2).drew
 generalize W2.drew = W3 at hS ⊢
 have HS:=ah hS
 have hI:=HI.out W3 hS
 obtain ⟨hq,lS,hrel⟩:=hI.pr n p HP.out
 have nE:=ah hI
 have HQ:=ah hq
 have nP:=ah lS
 have jQ:=ah hrel
 obtain ⟨r0,r1,-,r3,r4,r5,r6,r7,r8,r9,-,r11,rl,-⟩:=KB.cells (kY.out W3 hS)
 rw [mJ.out.1] at r0
 rw [mJ.out.2] at r1
 have gl:=Blk.lt hq
 have ml:=Blk.lt hI.blk
 obtain ⟨az,CX⟩:∃z:Int,z = x.a:=⟨_,rfl⟩
 rw [← CX] at r5
 have tS:=ah (show az = (A:Int) by rw [CX];exact HA.out.1)
 clear CX
 rw [HA.out.2.1] at r6
 obtain ⟨Pp,vK⟩:∃q:Nat,q = A / 256:=⟨_,rfl⟩
 have Ef:=ah vK
 have Gw:Pp+1≤1024:=by rw [vK];have:=HA.out.2.2.1;omega
 have HWQ:=ah (show wrap64 (az.tdiv 256) = (Pp:Int)∧IntKind.i64.wrap (az.tdiv 256) = (Pp:Int) by rw [tS.out];exact bM HA.out.2.2.1 vK)
 have pi0:(0:Int)≤(Pp:Int):=by omega
 have pi1:(Pp:Int) < 1024:=by omega
 have lV:=ah (ip hq (p:=Pp) (c:=1) Gw)
 have sB:=QB.rt hq (i:=Pp) (by omega)
 have sN:=jQ.out.rt Pp (by omega)
 obtain ⟨rr,uW⟩:∃r,r = (gs n).rt ((Pp:Nat):Int):=⟨_,rfl⟩
 rw [← uW] at sB sN
 have lN:=ah (show rr = Ar.rt p.rl ((A / 256:Nat):Int) by rw [sN,vK])
 have oP:=ah uW
 have yT:=lI.out.g ((A / 256:Nat):Int)
 rw [← lN.out] at yT
 have DT:=ah yT
 clear vK Gw sN uW yT
 clear hS hI hq lS hrel
 obtain ⟨wq1,wq2⟩:=HWQ.out
 go_wp2_with (first|refine av fun K I=>?_|refine ai fun K I=>?_;go_simp;refine I _ _ ?_;clear I K|refine ao fun K I=>?_;go_simp|refine aj ?_)
 clear wq1 wq2
 refine lV.out.mono ?_
 rintro e W4 ⟨⟨rfl,jX⟩ | ⟨rfl,jZ⟩,rfl⟩
 case inr =>
  have h0:rr = 0:=by obtain ⟨q,a1,a2,a3⟩:=jZ;have e:q = Pp:=(by omega);rw [oP.out,← e];exact a3
  obtain rfl:RR = (aq 7,none):=by rw [jC.out,if_pos (by rw [← lN.out];exact h0)]
  clear jZ lV h0
  go_wp2_with fail
  refine (dd 7 _).mono ?_
  rintro e W5 ⟨rfl,U⟩
  have jM:=ah U
  clear U
  go_wp2_with (first|refine au (b:=b6) (x:=zRs) (v:=zV) (y:=aq 7) (u:=zV) rfl _ _ rfl rfl rfl rfl (XB.stay (kD.out W3 HS.out) jM.out) ?_;intro W6 h6 iZ)
  refine bodyPost_ret (v:=.agg (rsc (aq 7) zV)) (results_cell_row (p:=6) (ty:=40) rfl _ _ b6 40 _ (0,0) _ rfl h6 Tryz.underlying40 rfl ct) rfl ?_
  refine ⟨none,0,0,rfl,RE.nil ucl 1 _ none 0,fun _ hk=>(bw hk).elim,⟨sp,gs,?_⟩,?_⟩
  ·exact (nE.out.stay jM.out).new (B:=w.heap.size) jK.out iZ (fun y hy=>by obtain rfl:=aa hy;have:=HB.out;omega)
  ·exact (((jJ.out.stay HS.out).stay jM.out).up [m,gb n,gm n]).trans iZ (fun y hy=>.inr (by obtain rfl:=aa hy;have:=HB.out;omega))
 have h0:rr≠0:=by rw [oP.out];exact jX Pp (by omega) (by omega)
 clear jX lV
 rcases (show rr = 2∨rr = 1∨rr = 3 by have:=DT.out;omega) with rfl | rfl | rfl
 ·obtain rfl:RR = (aq 190,none):=by rw [jC.out,if_neg (by rw [← lN.out];decide),if_pos (by rw [← lN.out];decide)]
  clear h0
  go_wp2_with fail
  refine (dd 190 _).mono ?_
  rintro e W5 ⟨rfl,U⟩
  have jM:=ah U
  clear U
  go_wp2_with (first|refine au (b:=b6) (x:=zRs) (v:=zV) (y:=aq 190) (u:=zV) rfl _ _ rfl rfl rfl rfl (XB.stay (kD.out W3 HS.out) jM.out) ?_;intro W6 h6 iZ)
  refine bodyPost_ret (v:=.agg (rsc (aq 190) zV)) (results_cell_row (p:=6) (ty:=40) rfl _ _ b6 40 _ (0,0) _ rfl h6 Tryz.underlying40 rfl ct) rfl ?_
  refine ⟨none,0,0,rfl,RE.nil ucl 1 _ none 0,fun _ hk=>(bw hk).elim,⟨sp,gs,?_⟩,?_⟩
  ·exact (nE.out.stay jM.out).new (B:=w.heap.size) jK.out iZ (fun y hy=>by obtain rfl:=aa hy;have:=HB.out;omega)
  ·exact (((jJ.out.stay HS.out).stay jM.out).up [m,gb n,gm n]).trans iZ (fun y hy=>.inr (by obtain rfl:=aa hy;have:=HB.out;omega))
 ·clear h0
  go_upto_region 35 with (fail)
  clear sB
  go_loopw [10,11] (fun bv iv wr=>∃(t:Nat) (A1:Option Addr) (n1 c1:Nat),t≤S∧iv = .int .i64 t∧bv = .slice A1 n1 c1∧Hid (SB wr (.slice A1 n1 c1) (ik (gs n) A t))∧Hid (∀i∈own (.slice A1 n1 c1),W3.heap.size≤i)∧Hid (Chg [] W3 wr)) (fun _ iv _=>S - (intOf iv).toNat)
  case atStart=>exact ⟨0,none,0,0,by omega,rfl,rfl,ah (SE.nil _ _ _ _),ah (fun _ h=>(bw h).elim),ah (Chg.refl _ _)⟩
  case round =>
   obtain ⟨t,A1,n1,c1,ht,rfl,rfl,lW,oC,jV⟩:=hrel
   have hI:=HI.out wr (HS.out.stay jV.out)
   obtain ⟨hq,lS,hrel⟩:=hI.pr n p HP.out
   have HQ':=ah hq
   have HMB':=ah lS
   obtain ⟨s0,-,-,-,-,s5,s6,-,-,-,-,-,sl,-⟩:=KB.cells (kY.out wr (HS.out.stay jV.out))
   rw [← show az = x.a by rw [tS.out];exact HA.out.1.symm] at s5
   rw [HA.out.2.1] at s6
   have gl':=Blk.lt hq
   have rD:=hq.bmap
   have i1:(t:Int) < 257:=by have:=HA.out;omega
   clear hI hq lS hrel r0 r1 r3 r4 r5 r6 r7 r8 r9 r11 rl gl ml
   by_cases jF:t < S
   ·have mH:=ah jF
    go_upto_region 37 with (fail)
    clear s0 s5 s6 sl gl' rD
    refine rgt [0,0,0,0,1,0,1,0,0,3,2,3,0] [none,none,none,none,none,none,none,none,none,none,none,none,none] (fun _=>True) ?_
    have mE:Chg [] wr wr.drew:=(Chg.refl [] wr).drew
    have zK:=ah (lW.out.stay mE)
    generalize wr.drew = W4 at mE zK ⊢
    have jR:=ah (jV.out.stay mE)
    clear mE lW
    have hI:=HI.out W4 (HS.out.stay jR.out)
    obtain ⟨hq,lS,hrel⟩:=hI.pr n p HP.out
    have xT:=ah lS
    obtain ⟨s0,-,-,-,-,s5,s6,-,-,-,-,-,sl,-⟩:=KB.cells (kY.out W4 (HS.out.stay jR.out))
    rw [← show az = x.a by rw [tS.out];exact HA.out.1.symm] at s5
    rw [HA.out.2.1] at s6
    have gl':=Blk.lt hq
    have rD:=hq.bmap
    clear hI hq lS hrel
    obtain ⟨z,hz⟩:∃z:Nat,z = ((gs n).by_ ((A+t:Nat):Int)).getD 0:=⟨_,rfl⟩
    have rF:(Instr.lookup 96 (Value.map (some (gm n))) (Value.int IntKind.i64 (wrap64 (az+(t:Int)))) false).run Tryz.prog W4 = .ok (.int .u8 z) W4:=by
     have e:wrap64 (az+(t:Int)) = ((A+t:Nat):Int):=by rw [tS.out];have:=HA.out;unfold wrap64;omega
     rw [e,hz]
     cases hb:(gs n).by_ ((A+t:Nat):Int) with
     | some y=>exact dy Tryz.underlying96 Tryz.underlying3 xT.out (by unfold byF;rw [hb];rfl) false
     | none=>exact ej Tryz.underlying96 Tryz.underlying3 xT.out (by unfold byF;rw [hb];rfl) (zero5 W4) false
    have HZ:=ah hz
    clear hz
    have CE:=ah (fun W' (h':Chg [] W4 W')=>zK.out.stay h')
    go_wp2_with (first|refine ao fun K I=>?_;refine rb _ _ rfl (.slice A1 n1 c1) (.slice (some ⟨W4.heap.size,0,none⟩) 1 1) rfl rfl (CE.out _ ((Chg.refl [] W4).alloc _)) (RB_one W4 z) (by rw [we];have:=HA.out;simp;omega) ?_;intro A9 n9 c9 W9 mW nT kE mU;refine I _ _ ?_;clear I K|refine av fun K I=>?_|refine ai fun K I=>?_;go_simp;refine I _ _ ?_;clear I K|refine ao fun K I=>?_;go_simp|refine aj ?_)
    go_roundw
    case rel=>exact ⟨t+1,A9,n9,c9,mH.out,by go_num,rfl,ah (by rw [uo,← HZ.out];exact nT),ah (fun k hk=>(mU k hk).elim (oC.out k) (fun h=>ag jR.out.size (ag (by rw [af];omega) h))),ah (((jR.out.stay ((Chg.refl [] W4).alloc _)).trans kE (fun y hy=>.inr (oC.out y hy))))⟩
    case measure=>have:=mH.out;simp [intOf];omega
   ·obtain rfl:t = S:=by omega
    clear jF
    have EV:=ah (br_l A1 n1 c1 (ik (gs n) A t))
    go_wp2_with (first|refine bx rfl _ rfl EV.out ?_ ?_;(focus (simp [Act.eval,Act.put];done))|refine au (b:=b6) (x:=zRs) (v:=zV) (y:=⟨0,0,ik (gs n) A t⟩) (u:=.slice A1 n1 c1) rfl _ _ rfl rfl rfl rfl (kD.out wr (HS.out.stay jV.out)) ?_;intro W6 h6 iZ)
    refine bodyPost_ret (v:=.agg (rsc ⟨0,0,ik (gs n) A t⟩ (.slice A1 n1 c1))) (results_cell_row (p:=6) (ty:=40) rfl _ _ b6 40 _ (0,0) _ rfl h6 Tryz.underlying40 rfl ct) rfl ?_
    obtain rfl:RR = (⟨0,0,ik (gs n) A t⟩,none):=by rw [jC.out,if_neg (by rw [← lN.out];decide),if_neg (by rw [← lN.out];decide),yt jQ.out HA.out.2.2.1 HA.out.2.2.2.2 (kI.out _)]
    have kV:b6 < W3.heap.size:=Blk.lt (kD.out W3 HS.out)
    have Bn:=(jJ.out.stay HS.out).size
    refine ⟨A1,n1,c1,rfl,(lW.out.chg iZ (fun k hk kL=>by obtain rfl:=aa kL;have:=oC.out _ hk;omega)).re,fun k hk=>ag Bn (oC.out k hk),⟨sp,gs,?_⟩,?_⟩
    ·exact (HI.out wr (HS.out.stay jV.out)).new (B:=w.heap.size) jK.out iZ (fun y hy=>by obtain rfl:=aa hy;have:=HB.out;omega)
    ·exact (((jJ.out.stay HS.out).stay jV.out).up [m,gb n,gm n]).trans iZ (fun y hy=>.inr (by obtain rfl:=aa hy;have:=HB.out;omega))
 ·clear h0
  go_upto_region 35 with (fail)
  clear sB
  go_loopw [10,11] (fun bv iv wr=>∃(t:Nat) (A1:Option Addr) (n1 c1:Nat),t≤S∧iv = .int .i64 t∧bv = .slice A1 n1 c1∧Hid (SB wr (.slice A1 n1 c1) (ik (gs n) A t))∧Hid (∀i∈own (.slice A1 n1 c1),W3.heap.size≤i)∧Hid (Chg [] W3 wr)) (fun _ iv _=>S - (intOf iv).toNat)
  case atStart=>exact ⟨0,none,0,0,by omega,rfl,rfl,ah (SE.nil _ _ _ _),ah (fun _ h=>(bw h).elim),ah (Chg.refl _ _)⟩
  case round =>
   obtain ⟨t,A1,n1,c1,ht,rfl,rfl,lW,oC,jV⟩:=hrel
   have hI:=HI.out wr (HS.out.stay jV.out)
   obtain ⟨hq,lS,hrel⟩:=hI.pr n p HP.out
   have HQ':=ah hq
   have HMB':=ah lS
   obtain ⟨s0,-,-,-,-,s5,s6,-,-,-,-,-,sl,-⟩:=KB.cells (kY.out wr (HS.out.stay jV.out))
   rw [← show az = x.a by rw [tS.out];exact HA.out.1.symm] at s5
   rw [HA.out.2.1] at s6
   have gl':=Blk.lt hq
   have rD:=hq.bmap
   have i1:(t:Int) < 257:=by have:=HA.out;omega
   clear hI hq lS hrel r0 r1 r3 r4 r5 r6 r7 r8 r9 r11 rl gl ml
   by_cases jF:t < S
   ·have mH:=ah jF
    go_upto_region 37 with (fail)
    clear s0 s5 s6 sl gl' rD
    refine rgt [0,0,0,0,1,0,1,0,0,3,2,3,0] [none,none,none,none,none,none,none,none,none,none,none,none,none] (fun _=>True) ?_
    have mE:Chg [] wr wr.drew:=(Chg.refl [] wr).drew
    have zK:=ah (lW.out.stay mE)
    generalize wr.drew = W4 at mE zK ⊢
    have jR:=ah (jV.out.stay mE)
    clear mE lW
    have hI:=HI.out W4 (HS.out.stay jR.out)
    obtain ⟨hq,lS,hrel⟩:=hI.pr n p HP.out
    have xT:=ah lS
    obtain ⟨s0,-,-,-,-,s5,s6,-,-,-,-,-,sl,-⟩:=KB.cells (kY.out W4 (HS.out.stay jR.out))
    rw [← show az = x.a by rw [tS.out];exact HA.out.1.symm] at s5
    rw [HA.out.2.1] at s6
    have gl':=Blk.lt hq
    have rD:=hq.bmap
    clear hI hq lS hrel
    obtain ⟨z,hz⟩:∃z:Nat,z = ((gs n).by_ ((A+t:Nat):Int)).getD 0:=⟨_,rfl⟩
    have rF:(Instr.lookup 96 (Value.map (some (gm n))) (Value.int IntKind.i64 (wrap64 (az+(t:Int)))) false).run Tryz.prog W4 = .ok (.int .u8 z) W4:=by
     have e:wrap64 (az+(t:Int)) = ((A+t:Nat):Int):=by rw [tS.out];have:=HA.out;unfold wrap64;omega
     rw [e,hz]
     cases hb:(gs n).by_ ((A+t:Nat):Int) with
     | some y=>exact dy Tryz.underlying96 Tryz.underlying3 xT.out (by unfold byF;rw [hb];rfl) false
     | none=>exact ej Tryz.underlying96 Tryz.underlying3 xT.out (by unfold byF;rw [hb];rfl) (zero5 W4) false
    have HZ:=ah hz
    clear hz
    have CE:=ah (fun W' (h':Chg [] W4 W')=>zK.out.stay h')
    go_wp2_with (first|refine ao fun K I=>?_;refine rb _ _ rfl (.slice A1 n1 c1) (.slice (some ⟨W4.heap.size,0,none⟩) 1 1) rfl rfl (CE.out _ ((Chg.refl [] W4).alloc _)) (RB_one W4 z) (by rw [we];have:=HA.out;simp;omega) ?_;intro A9 n9 c9 W9 mW nT kE mU;refine I _ _ ?_;clear I K|refine av fun K I=>?_|refine ai fun K I=>?_;go_simp;refine I _ _ ?_;clear I K|refine ao fun K I=>?_;go_simp|refine aj ?_)
    go_roundw
    case rel=>exact ⟨t+1,A9,n9,c9,mH.out,by go_num,rfl,ah (by rw [uo,← HZ.out];exact nT),ah (fun k hk=>(mU k hk).elim (oC.out k) (fun h=>ag jR.out.size (ag (by rw [af];omega) h))),ah (((jR.out.stay ((Chg.refl [] W4).alloc _)).trans kE (fun y hy=>.inr (oC.out y hy))))⟩
    case measure=>have:=mH.out;simp [intOf];omega
   ·obtain rfl:t = S:=by omega
    clear jF
    have EV:=ah (br_l A1 n1 c1 (ik (gs n) A t))
    go_wp2_with (first|refine bx rfl _ rfl EV.out ?_ ?_;(focus (simp [Act.eval,Act.put];done))|refine au (b:=b6) (x:=zRs) (v:=zV) (y:=⟨0,0,ik (gs n) A t⟩) (u:=.slice A1 n1 c1) rfl _ _ rfl rfl rfl rfl (kD.out wr (HS.out.stay jV.out)) ?_;intro W6 h6 iZ)
    refine bodyPost_ret (v:=.agg (rsc ⟨0,0,ik (gs n) A t⟩ (.slice A1 n1 c1))) (results_cell_row (p:=6) (ty:=40) rfl _ _ b6 40 _ (0,0) _ rfl h6 Tryz.underlying40 rfl ct) rfl ?_
    obtain rfl:RR = (⟨0,0,ik (gs n) A t⟩,none):=by rw [jC.out,if_neg (by rw [← lN.out];decide),if_neg (by rw [← lN.out];decide),yt jQ.out HA.out.2.2.1 HA.out.2.2.2.2 (kI.out _)]
    have kV:b6 < W3.heap.size:=Blk.lt (kD.out W3 HS.out)
    have Bn:=(jJ.out.stay HS.out).size
    refine ⟨A1,n1,c1,rfl,(lW.out.chg iZ (fun k hk kL=>by obtain rfl:=aa kL;have:=oC.out _ hk;omega)).re,fun k hk=>ag Bn (oC.out k hk),⟨sp,gs,?_⟩,?_⟩
    ·exact (HI.out wr (HS.out.stay jV.out)).new (B:=w.heap.size) jK.out iZ (fun y hy=>by obtain rfl:=aa hy;have:=HB.out;omega)
    ·exact (((jJ.out.stay HS.out).stay jV.out).up [m,gb n,gm n]).trans iZ (fun y hy=>.inr (by obtain rfl:=aa hy;have:=HB.out;omega))
def EvOk (M:Mo):Prop:=∀z B,M.ob z = some B→M.ev z = true
theorem EvOk.new (c:Cf):EvOk (nk c):=fun _ _ h=>by cases h
theorem EvOk.ans {M M':Mo} (h:EvOk M) {x:Cl} {v:Nat} (e:(bj M x v).2 = some M'):EvOk M':=by
 unfold bj at e
 split at e
 ·unfold iq at e
  split at e
  ·obtain rfl:=Option.some.inj e
   exact h
  ·cases e
 split at e
 ·unfold ja at e
  split at e
  ·cases e
  ·obtain rfl:=Option.some.inj e
   intro z B hz
   show upd M.ev v true z = true
   have zU:upd M.ob v _ z = some B:=hz
   unfold upd at zU ⊢
   split
   ·rfl
   ·rename_i jO
    rw [if_neg jO] at zU
    exact h z B zU
 split at e
 ·unfold fh at e
  split at e
  ·cases e
  ·rename_i b hb
   have key:∀(o:Option (List Nat)),EvOk { M with ob:=upd M.ob x.h o }:=fun o z B hz=>by
    have zU:upd M.ob x.h o z = some B:=hz
    unfold upd at zU
    split at zU
    ·rename_i e1
     rw [e1]
     exact h _ b hb
    ·exact h z B zU
   split at e
   ·obtain rfl:=Option.some.inj e
    exact key none
   split at e
   ·cases e
   split at e
   ·cases e
   ·obtain rfl:=Option.some.inj e
    exact key (some _)
 split at e
 ·cases e
 split at e
 ·cases e
 ·unfold cd at e
  repeat' split at e
  all_goals first
   | (obtain rfl:=Option.some.inj e;exact h)
   | (cases e;done)
   | (rw [Option.map_eq_some_iff] at e;obtain ⟨q,_,rfl⟩:=e;exact h)
theorem EvOk.step {M:Mo} (h:EvOk M) (x:Cl) (r:Rs):EvOk (ic M x r):=by
 unfold ic
 split
 ·exact h
 ·cases e:(bj M x r.v).2 with
  | none=>exact h
  | some M'=>exact h.ans e
noncomputable def gf (M:Mo) (x:Cl) (f:Nat):Rs:=if ci M.c x = true then aq 2 else if x.k = 10 then ⟨0,f,[]⟩ else (bj M x 0).1
theorem procA_v {M:Mo} {x:Cl} (rK:x.k≠17) (v:Nat) (p:Pr):cd M x v p = cd M x 0 p:=by
 unfold cd
 rw [if_neg (c:=x.k = 17) rK,if_neg (c:=x.k = 17) rK]
theorem ans_v {M:Mo} {x:Cl} (kK:x.k≠10) (rK:x.k≠17) (v:Nat):bj M x v = bj M x 0:=by
 unfold bj
 rw [if_neg (c:=x.k = 10) kK,if_neg (c:=x.k = 10) kK]
 cases M.pr x.p with
 | none=>rfl
 | some p=>simp only [procA_v rK v]
theorem ans_17 {M:Mo} {x:Cl} (rK:x.k = 17):(bj M x 0).1.v = 0:=by
 unfold bj
 rw [if_neg (by omega),if_neg (by omega),if_neg (by omega),if_neg (by omega)]
 split
 ·rfl
 ·unfold cd
  rw [if_neg (by omega),if_neg (by omega),if_neg (by omega),if_neg (by omega),if_neg (by omega)]
  split
  ·rfl
  ·first | exact Nat.zero_min _|(rw [if_pos rK];exact Nat.zero_min _)
theorem acc_e (p:Pr) (x:Cl):(cx p x).1.e = 7∨(cx p x).1.e = 190∨(cx p x).1.e = 0:=by
 unfold cx
 simp only
 repeat' split
 all_goals first | exact .inl rfl | exact .inr (.inl rfl) | exact .inr (.inr rfl)
theorem proc_e {M:Mo} {x:Cl} (hk:x.k = 6∨x.k = 8∨x.k = 9∨x.k = 18) (p:Pr):(cd M x 0 p).1.e = 7∨(cd M x 0 p).1.e = 190∨(cd M x 0 p).1.e = 0:=by
 unfold cd
 rw [if_neg (by omega),if_neg (by omega),if_neg (by omega),if_neg (by omega)]
 by_cases h:x.k = 8∨x.k = 9
 ·rw [if_pos h];exact acc_e p x
 ·rw [if_neg h]
  repeat' split
  all_goals first | exact .inl rfl | exact .inr (.inl rfl) | exact .inr (.inr rfl)
theorem bG {M:Mo} {x:Cl} (kK:x.k≠10):eh x.k (bj M x 0).1.e = false:=by
 cases hf:eh x.k (bj M x 0).1.e with
 | false=>rfl
 | true =>
  exfalso
  unfold eh at hf
  simp only [Bool.or_eq_true,Bool.and_eq_true,beq_iff_eq,decide_eq_true_eq] at hf
  have hk:x.k = 6∨x.k = 8∨x.k = 9∨x.k = 1∨x.k = 18:=by omega
  have he:(bj M x 0).1.e = 6∨(bj M x 0).1.e = 40:=by omega
  clear hf
  unfold bj at he
  by_cases h1:x.k = 1
  ·rw [if_pos h1] at he
   unfold iq at he
   split at he
   ·exact (show ¬ ((0:Int) = 6∨(0:Int) = 40) by decide) he
   ·exact (show ¬ ((9:Int) = 6∨(9:Int) = 40) by decide) he
  ·rw [if_neg h1,if_neg kK,if_neg (by omega),if_neg (by omega)] at he
   split at he
   ·exact (show ¬ ((7:Int) = 6∨(7:Int) = 40) by decide) he
   ·rename_i p _
    have:=proc_e (M:=M) (x:=x) (by omega) p
    omega
theorem ans_may {M:Mo} {x:Cl} {f:Nat} (h0:f≠0) (hf:M.ev f = false):fv M x (gf M x f) = true:=by
 unfold fv gf
 by_cases hw:ci M.c x = true
 ·rw [if_pos hw,if_pos hw,gw]
 ·rw [if_neg hw,if_neg hw]
  by_cases kK:x.k = 10
  ·rw [if_pos kK,if_neg (by rw [kK];exact (show ¬ eh 10 (0:Int) = true by decide)),gw]
   unfold bj
   rw [if_neg (by omega),if_pos kK]
   unfold ja
   rw [if_neg (by rintro (h | h);exact h0 h;rw [hf] at h;cases h)]
  ·rw [if_neg kK,if_neg (by rw [bG kK];decide),gw]
   by_cases rK:x.k = 17
   ·rw [ans_17 rK]
   ·exact congrArg Prod.fst (ans_v kK rK _).symm
structure MoOk (M:Mo):Prop where
 pr:∀z p,M.pr z = some p→(1≤z∧z≤8)∧Ar.Sp p.rl∧(∀q:Int,(gj p q).length = 256)∧(∀q:Int,∀y∈gj p q,y < 256)∧p.pk < 256∧p.pm < 256∧∀q u,p.ow q = some u→u.1 < 256∧u.2 < 256
 ob:∀z B,M.ob z = some B→(∀y∈B,y < 256)∧B.length≤128
theorem MMem.ok {w:World} {m:Nat} {M:Mo} {O:Nat→Prop} (h:MMem w m M O):MoOk M:=by
 obtain ⟨bp,bo,be,fp,fo,fe,gb,GF,ov,hI,-,-⟩:=h
 refine ⟨fun z p hp=>?_,fun z B hB=>(hI.ob z B hB).2⟩
 obtain ⟨d,FA,qp,qo,gp',go',gp,hP,-,-⟩:=hI.pr z p hp
 refine ⟨hI.rng z p hp,hP.sp,fun q=>?_,fun q y hy=>?_,hP.pk,hP.pm,hP.ow⟩
 ·unfold gj
  cases hg:p.pg q with
  | none=>exact List.length_replicate
  | some B=>exact (hP.pg q B hg).len
 ·unfold gj at hy
  cases hg:p.pg q with
  | none =>
   rw [hg] at hy
   have h2:y∈zeroPg:=hy
   unfold zeroPg at h2
   rw [List.mem_replicate] at h2
   omega
  | some B =>
   rw [hg] at hy
   exact (hP.pg q B hg).b8 y hy
theorem MoOk.ans_l {M:Mo} (h:MoOk M) (x:Cl) (v:Nat):∀b∈(bj M x v).1.l,b < 256:=by
 have nl:∀(R:Rs),R.l = []→∀b∈R.l,b < 256:=fun R h b hb=>by rw [h] at hb;cases hb
 unfold bj
 split
 ·refine nl _ ?_
  unfold iq
  split <;> rfl
 split
 ·refine nl _ ?_
  unfold ja
  split <;> rfl
 split
 ·unfold fh
  cases hb:M.ob x.h with
  | none=>exact nl _ rfl
  | some B =>
   simp only
   split
   ·exact nl _ rfl
   split
   ·exact nl _ rfl
   split
   ·intro b hh
    exact (h.ob _ _ hb).1 b (List.mem_of_mem_drop (List.mem_of_mem_take hh))
   ·exact nl _ rfl
 split
 ·exact nl _ rfl
 cases hp:M.pr x.p with
 | none=>exact nl _ rfl
 | some p =>
  simp only
  unfold cd
  split
  ·exact nl _ rfl
  split
  ·exact nl _ rfl
  split
  ·exact nl _ rfl
  split
  ·exact nl _ rfl
  split
  ·unfold cx
   simp only
   split
   ·exact nl _ rfl
   split
   ·split
    ·exact nl _ rfl
    ·intro b hh
     exact (h.pr _ _ hp).2.2.2.1 _ b (List.mem_of_mem_drop (List.mem_of_mem_take hh))
   ·split <;> exact nl _ rfl
  split
  ·exact nl _ rfl
  split
  ·exact nl _ rfl
  split <;> exact nl _ rfl
theorem ansR_ok {M:Mo} (h:MoOk M) (x:Cl) (f:Nat):∀b∈(gf M x f).l,b < 256:=by
 unfold gf
 split
 ·intro b hb;cases hb
 split
 ·intro b hb;cases hb
 ·exact h.ans_l x 0
def cntG (E:List Nat) (z:Nat):Nat:=E.countP fun e=>decide (z≤e)
theorem cntG_le (E:List Nat) (z:Nat):cntG E z≤E.length:=List.countP_le_length
theorem fL {E:List Nat} {z:Nat} (h:z∈E):cntG E (z+1)+1≤cntG E z:=by
 unfold cntG
 induction E with
 | nil=>cases h
 | cons a E ih =>
  rw [List.countP_cons,List.countP_cons]
  by_cases e:a = z
  ·subst e
   have Aq:(E.countP fun e=>decide (a+1≤e))≤E.countP fun e=>decide (a≤e):=List.countP_mono_left (fun x _ hx=>by simp at hx ⊢;omega)
   have h1:decide (a+1≤a) = false:=ac (by omega)
   have h2:decide (a≤a) = true:=ae (Nat.le_refl _)
   rw [h1,h2]
   simp
   omega
  ·have h':z∈E:=by
    rcases List.mem_cons.1 h with rfl | h
    ·exact absurd rfl e
    ·exact h
   have:=ih h'
   by_cases e1:z+1≤a
   ·rw [ae e1,ae (show z≤a by omega)]
    simp;omega
   ·rw [ac e1,ac (show ¬ z≤a by omega)]
    simp;omega
def fM (E:List Nat) (z k:Nat):Nat:=cntG E z * (E.length+1)+(E.length - k)
theorem fM_lt {E:List Nat} {z k:Nat} (h:z∈E) (hk:k < E.length):fM E (z+1) 0 < fM E z k:=by
 unfold fM
 have h1:=fL h
 have h2:(cntG E (z+1)+1) * (E.length+1)≤cntG E z * (E.length+1):=Nat.mul_le_mul_right _ h1
 rw [Nat.add_mul] at h2
 omega
section
variable {w:World} {m:Nat} {M:Mo} {sp:Nat→Option Nat} {vo ve:Value} {L:List Ob} {E:List Nat} {gb gm:Nat→Nat} {gs:Nat→Sq}
theorem hY (h:WIn w m M sp vo ve L E gb gm gs):Calls Tryz.prog 18 #[.pointer (some ⟨m,0,none⟩)] w fun e w'=>(∃f:Nat,e = .returned (.int .u64 f)∧f≠0∧f < 18446744073709551616∧M.ev f = false)∧w = w':=by
 have q:=WB.vec h.blk
 have ql:=Blk.lt h.blk
 have HS:=ah h.ev.sl.re
 have rA:=ah h.ev.lk
 have HE64:=ah h.ev.e64
 have As:=SE.max h.ev.sl
 obtain ⟨A,c,rfl⟩:=SE.form h.ev.sl
 have xU:=ah (show E.length≤9223372036854775807 from by have:=As;unfold maxLen at this;omega)
 clear h As
 obtain ⟨C,hC⟩:∃C:Nat,C = 4611686018427387904:=⟨_,rfl⟩
 have HC:=ah hC
 clear hC
 go_enter Tryz.func18,Tryz.ntmps18
 go_upto_region 3 with (fail)
 go_loopw [3,11] (fun hv iv wr=>wr = w∧∃k z:Nat,k≤E.length∧iv = .int .i64 k∧hv = .int .u64 z∧Hid (1≤z∧z≤C)) (fun _ iv _=>E.length - (intOf iv).toNat)
 case atStart=>exact ⟨rfl,0,1,by omega,rfl,rfl,ah (by rw [HC.out];omega)⟩
 case round =>
  obtain ⟨rfl,k,z,hk,rfl,rfl,hz⟩:=hrel
  have HZ:=ah hz.out
  clear hz
  by_cases hkl:k < E.length
  ·obtain ⟨g,off,rfl⟩:=RE.addr HS.out (show 0 < E.length by omega)
   have q1:wr.cell? ⟨g,off+k,none⟩ = some (.int .u64 E[k]):=by simpa using RE.cell rq HS.out hkl (j:=0) (u:=.int .u64 E[k]) (by omega) rfl
   obtain ⟨x,hx⟩:∃x:Int,x = (E[k]:Int):=⟨_,rfl⟩
   rw [← hx] at q1
   obtain ⟨y,hy⟩:∃y:Nat,y = E[k] % C:=⟨_,rfl⟩
   have hx64:E[k] < 18446744073709551616:=HE64.out _ (List.getElem_mem hkl)
   have pL:=xU.out
   have dl:decide ((k:Int) < (E.length:Int)) = true:=ae (by omega)
   have dl':decide (k < E.length) = true:=ae hkl
   have i0:(0:Int)≤(k:Int):=by omega
   have i1:(k:Int) < (E.length:Int):=by omega
   have mS:IntKind.i64.wrap ((k:Int)+1) = (k:Int)+1:=by rw [IntKind.wrap_i64];omega
   have hyC:y < C:=by rw [hy,HC.out];exact Nat.mod_lt _ (by omega)
   have Ey:x.tmod 4611686018427387904 = (y:Int):=by rw [hx,hy,HC.out,Int.tmod_eq_emod_of_nonneg (by omega)];omega
   have oV:IntKind.u64.wrap (y:Int) = (y:Int):=by rw [IntKind.wrap_u64];have:=HC.out;omega
   have rG:IntKind.u64.wrap ((y:Int)+1) = (y:Int)+1:=by rw [IntKind.wrap_u64];have:=HC.out;omega
   obtain ⟨mz,hmz⟩:∃mz:Nat,mz = max z (y+1):=⟨_,rfl⟩
   have As:∀(ts:Array TypeId) (ty:TypeId) (W:World),(Builtin.max_ ts ty #[.int .u64 z,.int .u64 ((y:Int)+1)]).run Tryz.prog W = .ok (.int .u64 mz) W:=fun ts ty W=>by
    rw [Ar.run_max]
    congr 2
    omega
   have lZ:=ah hkl
   have HMZ:=ah (And.intro hmz hyC)
   clear hx hy hk pL hyC hmz hx64
   go_wp2_with fail
   go_roundw
   case rel=>exact ⟨trivial,k+1,mz,by have:=lZ.out;omega,by go_num,rfl,ah (by have h1:=HMZ.out;have h2:=HZ.out;omega)⟩
   case measure=>have:=lZ.out;simp [intOf];omega
  ·obtain rfl:k = E.length:=by omega
   clear hkl hk
   go_upto_region 8 with (fail)
   go_loopw [3,5] (fun hv kv wx=>wx = wr∧∃k z:Nat,k≤E.length∧kv = .int .i64 k∧hv = .int .u64 z∧Hid (1≤z∧z+cntG E z≤C+E.length)∧Hid (∀e∈E.take k,e≠z)) (fun hv kv _=>fM E (intOf hv).toNat (intOf kv).toNat)
   case atStart=>exact ⟨rfl,0,z,by omega,rfl,rfl,ah (by have h1:=HZ.out;have h2:=cntG_le E z;omega),ah (fun e he=>by cases he)⟩
   case round =>
    obtain ⟨rfl,k,z,hk,rfl,rfl,hz,jZ⟩:=hrel
    have HZ:=ah hz.out
    have mI:=ah jZ.out
    clear hz jZ
    by_cases hkl:k < E.length
    ·obtain ⟨g,off,rfl⟩:=RE.addr HS.out (show 0 < E.length by omega)
     have q1:wr.cell? ⟨g,off+k,none⟩ = some (.int .u64 E[k]):=by simpa using RE.cell rq HS.out hkl (j:=0) (u:=.int .u64 E[k]) (by omega) rfl
     obtain ⟨x,hx⟩:∃x:Int,x = (E[k]:Int):=⟨_,rfl⟩
     rw [← hx] at q1
     have HX:=ah hx
     have pL:=xU.out
     have dl:decide ((k:Int) < (E.length:Int)) = true:=ae (by omega)
     have dl':decide (k < E.length) = true:=ae hkl
     have i0:(0:Int)≤(k:Int):=by omega
     have i1:(k:Int) < (E.length:Int):=by omega
     have mS:IntKind.i64.wrap ((k:Int)+1) = (k:Int)+1:=by rw [IntKind.wrap_i64];omega
     have rG:IntKind.u64.wrap ((z:Int)+1) = (z:Int)+1:=by rw [IntKind.wrap_u64];have h1:=HZ.out;have h2:=HC.out;omega
     have lZ:=ah hkl
     obtain ⟨zz,zX⟩:∃zz:Int,zz = (z:Int):=⟨_,rfl⟩
     have HZZ:=ah zX
     clear hx hk pL
     by_cases he:x = (z:Int)
     ·have de:(x == (z:Int)) = true:=by rw [he];simp
      have HE:=ah (show z∈E from by have h1:=HX.out;have e:E[k]'lZ.out = z:=(by have:=lZ.out;omega);exact e ▸ List.getElem_mem lZ.out)
      clear he zX
      go_wp2_with fail
      go_roundw
      case rel=>exact ⟨trivial,0,z+1,by omega,by go_num,by go_num,ah (by have h1:=HZ.out;have h2:=fL HE.out;omega),ah (fun e he=>by cases he)⟩
      case measure =>
       have h3:=fM_lt HE.out lZ.out
       simp [intOf]
       exact h3
     ·have de:(x == (z:Int)) = false:=beq_false_of_ne he
      have HE:=ah he
      clear he zX
      go_wp2_with fail
      go_roundw
      case rel=>exact ⟨trivial,k+1,z,by have:=lZ.out;omega,by go_num,rfl,HZ,ah (fun e he=>by
       rw [List.take_succ_eq_append_getElem lZ.out] at he
       rcases List.mem_append.1 he with he | he
       ·exact mI.out e he
       ·obtain rfl:=aa he
        intro e2
        exact HE.out (by rw [HX.out,e2]))⟩
      case measure =>
       have h3:=lZ.out
       simp [intOf,fM]
       omega
    ·obtain rfl:k = E.length:=by omega
     clear hkl hk
     go_wp2_with fail
     go_ret
     refine ⟨⟨z,rfl,?_,?_,?_⟩,rfl⟩
     ·have:=HZ.out;omega
     ·have h1:=HZ.out;have h2:=HC.out;have h3:=xU.out;omega
     ·rw [rA.out,List.any_eq_false]
      intro e he
      have h1:=mI.out e (by rw [List.take_length];exact he)
      simp
      omega
end
end Go.Proofs.YtfoleblcaloeoaaGreatDoor
