/- Texts merged for the claim. -/
import Derived.Test.YtfoleblcaloeoaaGreatDoorZbl
set_option maxHeartbeats 40000000
set_option maxRecDepth 20000
namespace Go.Proofs.YtfoleblcaloeoaaGreatDoor
open Go Go.RowKit
def stS (s:Sq) (A:Nat) (l:List Nat) (t:Nat):Sq:={ s with by_:=fun a=>if (A:Int)≤a∧a < ((A+t:Nat):Int) then l[(a - (A:Int)).toNat]? else s.by_ a }
theorem cU (s:Sq) (A:Nat) (l:List Nat):stS s A l 0 = s:=by
 unfold stS
 have:(fun a:Int=>if (A:Int)≤a∧a < ((A+0:Nat):Int) then l[(a - (A:Int)).toNat]? else s.by_ a) = s.by_:=funext fun a=>if_neg (by omega)
 rw [this]
theorem fI (s:Sq) (A:Nat) {l:List Nat} {t:Nat} (ht:t < l.length):byF (stS s A l (t+1)) = fun y=>if y = ((A+t:Nat):Int) then some (.int .u8 (l[t]:Nat)) else byF (stS s A l t) y:=by
 funext y
 unfold byF stS
 by_cases h:y = ((A+t:Nat):Int)
 ·subst h
  simp only [if_pos rfl]
  rw [if_pos (by omega),show (((A+t:Nat):Int) - (A:Int)).toNat = t by omega,List.getElem?_eq_getElem ht]
  rfl
 ·simp only [if_neg h]
  by_cases h2:(A:Int)≤y∧y < ((A+t:Nat):Int)
  ·rw [if_pos (by omega),if_pos h2]
  ·rw [if_neg (by omega),if_neg h2]
theorem RB.not_map {w:World} {v:Value} {l:List Nat} (h:RB w v l) (hl:l≠[]) {b:Nat} {k:IntKind} {f:Int→Option Value} (hb:MapB w b k f):b∉own v:=by
 obtain ⟨A,c,rfl⟩:=h.form
 have h0:0 < l.length:=List.length_pos_iff.2 hl
 obtain ⟨g,off,rfl⟩:=h.addr h0
 have h1:=RE.cell (size:=1) (enc:=ucl) (fun _=>rfl) h (k:=0) (j:=0) h0 (Nat.zero_lt_one) rfl
 intro hm
 obtain ⟨es,cl,e1,-⟩:=hb
 obtain rfl:g = b:=Option.some.inj (gv.1 hm)
 simp [World.cell?,e1] at h1
theorem su {b l:List Nat} {a i:Nat} (h:a+l.length≤b.length):(cj b a l).getD i 0 = if a≤i∧i < a+l.length then l.getD (i - a) 0 else b.getD i 0:=by
 unfold cj
 simp only [List.getD_eq_getElem?_getD]
 rw [List.append_assoc]
 by_cases h1:i < a
 ·rw [List.getElem?_append_left (by rw [List.length_take];omega),List.getElem?_take,if_pos h1,if_neg (by omega)]
 ·rw [List.getElem?_append_right (by rw [List.length_take];omega),List.length_take,Nat.min_eq_left (by omega)]
  by_cases h2:i < a+l.length
  ·rw [List.getElem?_append_left (by omega),if_pos (by omega)]
  ·rw [List.getElem?_append_right (by omega),List.getElem?_drop,if_neg (by omega),show a+l.length+(i - a - l.length) = i by omega]
theorem RelP.store {p:Pr} {s:Sq} (h:RelP p s) {A:Nat} {l:List Nat} (hA:A < 262144) (hl:A % 256+l.length≤256) (h8:∀y∈l,y < 256) (hp:(gj p ((A / 256:Nat):Int)).length = 256) :
  RelP { p with pg:=upd p.pg ((A / 256:Nat):Int) (some (cj (gj p ((A / 256:Nat):Int)) (A % 256) l)) } (stS s A l l.length):=by
 refine ⟨h.rt,fun a h1 h2=>?_,fun a v hv=>?_,h.ow,h.po,h.ak,h.am⟩
 ·have hb:=h.by_ a h1 h2
  show (if (A:Int)≤a∧a < ((A+l.length:Nat):Int) then l[(a - (A:Int)).toNat]? else s.by_ a).getD 0 = ((upd p.pg ((A / 256:Nat):Int) (some (cj (gj p ((A / 256:Nat):Int)) (A % 256) l)) (a / 256)).getD zeroPg).getD (a % 256).toNat 0
  by_cases e:a / 256 = ((A / 256:Nat):Int)
  ·rw [e,di,Option.getD_some,su (by omega)]
   by_cases g:(A:Int)≤a∧a < ((A+l.length:Nat):Int)
   ·rw [if_pos g,if_pos (by omega),show (a - (A:Int)).toNat = (a % 256).toNat - A % 256 by omega,List.getD_eq_getElem?_getD]
   ·rw [if_neg g,if_neg (by omega),hb,e]
  ·rw [db _ _ e,if_neg (by omega),hb]
   rfl
 ·have qV:(if (A:Int)≤a∧a < ((A+l.length:Nat):Int) then l[(a - (A:Int)).toNat]? else s.by_ a) = some v:=hv
  split at qV
  ·exact h8 v (List.mem_of_getElem? qV)
  ·exact h.b8 a v qV
theorem eY {w:World} {m:Nat} {M:Mo} {sp:Nat→Option Nat} {vo ve:Value} {L:List Ob} {E:List Nat} {gb gm:Nat→Nat} {gs:Nat→Sq} (h:WIn w m M sp vo ve L E gb gm gs) (jF:∀k,FW' M m vo ve L gb gm k→k < w.heap.size)
  {x:Cl} (hx:x.Ok) {n:Nat} (kX:x.p = n) {p:Pr} (hp:M.pr n = some p) (hs:Ar.Sp p.rl) (jN:∀q:Int,(gj p q).length = 256) (hk:x.k = 9) {A:Nat} (ha:x.a = A) (ha8:A < 262144) (kT:1≤x.l.length) (haS:A % 256+x.l.length≤256)  (rM:∀y∈x.l,y < 256) (v:Value) (hv:v.oneCell' = true) (hvb:RB w v x.l) :
  Calls Tryz.prog 77 #[.pointer (some ⟨m,0,none⟩),.pointer (some ⟨gb n,0,none⟩),.agg (clc x v)] w fun e w'=>SpR w w' m M vo ve L E gb gm n (cd M x 0 p) e:=by
 obtain ⟨n1,n8⟩:=h.rng n p hp
 have mW:n < 9:=by omega
 have hR:cd M x 0 p = (if Ar.rt p.rl ((A / 256:Nat):Int) = 0 then (aq 7,none) else if Ar.rt p.rl ((A / 256:Nat):Int) < 2 then (aq 190,none) else (aq 0,some { M with pr:=upd M.pr n (some { p with pg:=upd p.pg ((A / 256:Nat):Int) (some (cj (gj p ((A / 256:Nat):Int)) (A % 256) x.l)) }) })):=by
  have e1:x.a / 256 = ((A / 256:Nat):Int):=by omega
  have e2:(x.a % 256).toNat = A % 256:=by omega
  unfold cd
  rw [if_neg (by omega),if_neg (by omega),if_neg (by omega),if_neg (by omega),if_pos (by omega),kX]
  unfold cx
  simp only [e1,e2]
  split
  ·rfl
  ·rw [if_neg (by omega)];split <;> rfl
 obtain ⟨RR,kB⟩:∃R,R = cd M x 0 p:=⟨_,rfl⟩
 rw [← kB]
 rw [hR] at kB
 have jC:=ah kB
 clear hR kB
 obtain ⟨W1,jG⟩:∃W1,W1 = w.alloc (.cells (clc x v) 47):=⟨_,rfl⟩
 obtain ⟨W2,jB⟩:∃W2,W2 = W1.alloc (.cells (rsc zRs zV) 40):=⟨_,rfl⟩
 have c01:Chg [] w W1:=by rw [jG];exact (Chg.refl [] w).alloc _
 have c12:Chg [] W1 W2:=by rw [jB];exact (Chg.refl [] W1).alloc _
 have kG:KB W2 w.heap.size x v:=KB.stay (by rw [jG];exact Blk.new w _ _) c12
 have kJ:XB W2 W1.heap.size zRs zV:=by rw [jB];exact Blk.new W1 _ _
 have e1:W1.heap.size = w.heap.size+1:=by rw [jG];exact af _ _
 obtain ⟨b3,jS⟩:∃y,y = w.heap.size:=⟨_,rfl⟩
 obtain ⟨b6,kV⟩:∃y,y = W1.heap.size:=⟨_,rfl⟩
 rw [← jS] at kG
 rw [← kV] at kJ
 have HI:=ah (fun W (hc:Chg [] W2 W)=>h.stay ((c01.stay c12).stay hc))
 have kY:=ah (fun W (hc:Chg [] W2 W)=>(KB.stay kG hc:KB W b3 x v))
 have kD:=ah (fun W (hc:Chg [] W2 W)=>(XB.stay kJ hc:XB W b6 zRs zV))
 have jJ:=ah (c01.stay c12)
 have kW:=ah jG
 have jP:=ah jB
 have HB:=ah (show b3 = w.heap.size∧b6 = w.heap.size+1 by omega)
 have jY:=ah jS
 have kH:=ah kV
 have jK:=ah jF
 have HP:=ah hp
 have HN:=ah (show 1≤n∧n < 9 by omega)
 have mJ:=ah (And.intro hk kX)
 have pR:=ah hx
 have HA:=ah (show x.a = (A:Int)∧A < 262144∧1≤x.l.length∧A % 256+x.l.length≤256 from ⟨ha,ha8,kT,haS⟩);have lI:=ah hs;have kI:=ah jN;have HV8:=ah rM;have HVB:=ah (hvb.stay (c01.stay c12))
 clear h jF hx kX hp c01 c12 kG kJ e1 jS kV jG jB n1 n8 mW hk ha ha8 kT haS hs jN hvb rM
 go_enter Tryz.func77,Tryz.ntmps77
 go_upto_region 1 with (first|refine ax rfl _ rfl rfl ?_;try rw [← kW.out]|refine bn rfl rfl ?_;try rw [← jP.out])
 try rw [← jY.out,← kH.out]
 refine uh [0,1,0,1,0,0] ?_
 have hS:Chg [] W2 W2.drew:=(Chg.refl [] W2).drew
 generalize W2.drew = W3 at hS ⊢
 have HS:=ah hS
 have hI:=HI.out W3 hS
 obtain ⟨hq,lS,hrel⟩:=hI.pr n p HP.out
 have nE:=ah hI
 have HQ:=ah hq
 have nP:=ah lS
 have jQ:=ah hrel
 obtain ⟨r0,r1,-,r3,r4,r5,r6,r7,r8,r9,-,r11,rl,-⟩:=KB.cells (kY.out W3 hS)
 rw [mJ.out.1] at r0
 rw [mJ.out.2] at r1
 have gl:=Blk.lt hq
 have ml:=Blk.lt hI.blk
 obtain ⟨az,CX⟩:∃z:Int,z = x.a:=⟨_,rfl⟩
 rw [← CX] at r5
 have tS:=ah (show az = (A:Int) by rw [CX];exact HA.out.1)
 clear CX
 obtain ⟨Pp,vK⟩:∃q:Nat,q = A / 256:=⟨_,rfl⟩
 have Ef:=ah vK
 have Gw:Pp+1≤1024:=by rw [vK];have:=HA.out.2.1;omega
 have HWQ:=ah (show wrap64 (az.tdiv 256) = (Pp:Int)∧IntKind.i64.wrap (az.tdiv 256) = (Pp:Int) by rw [tS.out];exact bM HA.out.2.1 vK)
 have pi0:(0:Int)≤(Pp:Int):=by omega
 have pi1:(Pp:Int) < 1024:=by omega
 have lV:=ah (ip hq (p:=Pp) (c:=1) Gw)
 have sB:=QB.rt hq (i:=Pp) (by omega)
 have sN:=jQ.out.rt Pp (by omega)
 obtain ⟨rr,uW⟩:∃r,r = (gs n).rt ((Pp:Nat):Int):=⟨_,rfl⟩
 rw [← uW] at sB sN
 have lN:=ah (show rr = Ar.rt p.rl ((A / 256:Nat):Int) by rw [sN,vK])
 have oP:=ah uW
 have yT:=lI.out.g ((A / 256:Nat):Int)
 rw [← lN.out] at yT
 have DT:=ah yT
 clear vK Gw sN uW yT
 clear hS hI hq lS hrel
 obtain ⟨wq1,wq2⟩:=HWQ.out
 go_wp2_with (first|refine av fun K I=>?_|refine ai fun K I=>?_;go_simp;refine I _ _ ?_;clear I K|refine ao fun K I=>?_;go_simp|refine aj ?_)
 clear wq1 wq2
 refine lV.out.mono ?_
 rintro e W4 ⟨⟨rfl,jX⟩ | ⟨rfl,jZ⟩,rfl⟩
 case inr =>
  have h0:rr = 0:=by obtain ⟨q,a1,a2,a3⟩:=jZ;have e:q = Pp:=(by omega);rw [oP.out,← e];exact a3
  obtain rfl:RR = (aq 7,none):=by rw [jC.out,if_pos (by rw [← lN.out];exact h0)]
  clear jZ lV h0
  go_wp2_with fail
  refine (dd 7 _).mono ?_
  rintro e W5 ⟨rfl,U⟩
  have jM:=ah U
  clear U
  go_wp2_with (first|refine au (b:=b6) (x:=zRs) (v:=zV) (y:=aq 7) (u:=zV) rfl _ _ rfl rfl rfl rfl (XB.stay (kD.out W3 HS.out) jM.out) ?_;intro W6 h6 iZ)
  refine bodyPost_ret (v:=.agg (rsc (aq 7) zV)) (results_cell_row (p:=6) (ty:=40) rfl _ _ b6 40 _ (0,0) _ rfl h6 Tryz.underlying40 rfl ct) rfl ?_
  refine ⟨none,0,0,rfl,RE.nil ucl 1 _ none 0,fun _ hk=>(bw hk).elim,⟨sp,gs,?_⟩,?_⟩
  ·exact (nE.out.stay jM.out).new (B:=w.heap.size) jK.out iZ (fun y hy=>by obtain rfl:=aa hy;have:=HB.out;omega)
  ·exact (((jJ.out.stay HS.out).stay jM.out).up [m,gb n,gm n]).trans iZ (fun y hy=>.inr (by obtain rfl:=aa hy;have:=HB.out;omega))
 have h0:rr≠0:=by rw [oP.out];exact jX Pp (by omega) (by omega)
 clear jX lV
 rcases (show rr = 1∨rr = 2∨rr = 3 by have:=DT.out;omega) with rfl | rfl | rfl
 ·obtain rfl:RR = (aq 190,none):=by rw [jC.out,if_neg (by rw [← lN.out];decide),if_pos (by rw [← lN.out];decide)]
  clear h0
  go_wp2_with fail
  refine (dd 190 _).mono ?_
  rintro e W5 ⟨rfl,U⟩
  have jM:=ah U
  clear U
  go_wp2_with (first|refine au (b:=b6) (x:=zRs) (v:=zV) (y:=aq 190) (u:=zV) rfl _ _ rfl rfl rfl rfl (XB.stay (kD.out W3 HS.out) jM.out) ?_;intro W6 h6 iZ)
  refine bodyPost_ret (v:=.agg (rsc (aq 190) zV)) (results_cell_row (p:=6) (ty:=40) rfl _ _ b6 40 _ (0,0) _ rfl h6 Tryz.underlying40 rfl ct) rfl ?_
  refine ⟨none,0,0,rfl,RE.nil ucl 1 _ none 0,fun _ hk=>(bw hk).elim,⟨sp,gs,?_⟩,?_⟩
  ·exact (nE.out.stay jM.out).new (B:=w.heap.size) jK.out iZ (fun y hy=>by obtain rfl:=aa hy;have:=HB.out;omega)
  ·exact (((jJ.out.stay HS.out).stay jM.out).up [m,gb n,gm n]).trans iZ (fun y hy=>.inr (by obtain rfl:=aa hy;have:=HB.out;omega))
 ·clear h0
  have CH:=ah (HVB.out.stay HS.out)
  have oL:=ah (show gb n∉[gm n] from by simp;exact Blk.ne_map HQ.out nP.out)
  have oY:=ah (show b3∉[gm n] from by have h1:=HB.out;have h3:=jK.out (gm n) (.inr (.inr (.inr (.inr ⟨n,p,HP.out,.inr rfl⟩))));simp;omega)
  have HNV:=ah (show ∀k∈own v,k∉[gm n] from fun k hk kL=>by obtain rfl:=aa kL;exact RB.not_map CH.out (by intro e;have:=HA.out;rw [e] at this;simp at this) nP.out hk)
  obtain ⟨Av,cv,xF⟩:=CH.out.form
  have Ah:=ah xF
  rw [xF] at r11
  clear xF
  go_upto_region 43 with (fail)
  clear sB
  go_loopw [12] (fun iv wr=>∃t:Nat,t≤x.l.length∧iv = .int .i64 t∧Hid (MapB wr (gm n) .i64 (byF (stS (gs n) A x.l t)))∧Hid (Chg [gm n] W3 wr)) (fun iv _=>x.l.length - (intOf iv).toNat)
  case atStart=>exact ⟨0,by omega,rfl,ah (by rw [cU];exact nP.out),ah (Chg.refl _ _)⟩
  case round =>
   obtain ⟨t,ht,rfl,wN,jV⟩:=hrel
   obtain ⟨s0,-,-,-,-,s5,-,-,-,-,-,s11,sl,-⟩:=KB.cells (show KB wr b3 x v from Blk.chg (kY.out W3 HS.out) jV.out oY.out)
   rw [← show az = x.a by rw [tS.out];exact HA.out.1.symm] at s5
   rw [Ah.out] at s11
   have i1:(t:Int) < 257:=by have:=HA.out;omega
   have i2:(x.l.length:Int) < 257:=by have:=HA.out;omega
   clear r0 r1 r3 r4 r5 r6 r7 r8 r9 r11 rl gl ml
   by_cases jF:t < x.l.length
   ·have mH:=ah jF
    go_upto_region 45 with (fail)
    clear s0 s5 s11 sl
    refine rgt [0,0,0,1,0,1,0,0,0,1,0,0,1,3] [none,none,none,none,none,none,none,none,none,none,none,none,none,none] (fun _=>True) ?_
    have mE:Chg [] wr wr.drew:=(Chg.refl [] wr).drew
    have zF:=ah (wN.out.stay mE)
    have jR:=ah (jV.out.stay mE)
    generalize wr.drew = W4 at mE zF jR ⊢
    clear mE wN
    obtain ⟨s0,-,-,-,-,s5,-,-,-,-,-,s11,sl,-⟩:=KB.cells (show KB W4 b3 x v from Blk.chg (kY.out W3 HS.out) jR.out oY.out)
    rw [← show az = x.a by rw [tS.out];exact HA.out.1.symm] at s5
    rw [Ah.out] at s11
    have zI:QB W4 (gb n) (gs n) (gm n):=Blk.chg HQ.out jR.out oL.out
    have gl':=Blk.lt zI
    have rD:=zI.bmap
    have xE:RB W4 v x.l:=CH.out.chg jR.out HNV.out
    rw [Ah.out] at xE
    obtain ⟨vg,vo_,rfl⟩:=xE.addr (by omega)
    have uL:=RE.cell (size:=1) (enc:=ucl) (fun _=>rfl) xE (k:=t) (j:=0) jF Nat.zero_lt_one rfl
    rw [Nat.mul_one,Nat.add_zero] at uL
    obtain ⟨y,hy⟩:∃y:Nat,y = x.l[t]:=⟨_,rfl⟩
    have Dh:W4.cell? ⟨vg,vo_+t,none⟩ = some (.int .u8 (y:Nat)):=by rw [hy];exact uL
    clear uL
    have HY:=ah hy
    clear zI xE hy
    go_wp2_with (first|refine ao fun K I=>?_;refine fd (val:=.int .u8 (y:Nat)) _ _ _ rfl Tryz.underlying96 Tryz.underlying3 rfl rfl rfl zF.out ?_;intro W5 h5 U;refine I _ _ ?_;clear I K|refine av fun K I=>?_|refine ai fun K I=>?_;go_simp;refine I _ _ ?_;clear I K|refine ao fun K I=>?_;go_simp|refine aj ?_)
    go_roundw
    case rel =>
     have e:wrap64 (az+(t:Int)) = ((A+t:Nat):Int):=by rw [tS.out];have:=HA.out;unfold wrap64;omega
     rw [e,HY.out] at h5
     exact ⟨t+1,mH.out,by go_num,ah (by rw [fI _ _ mH.out];exact h5),ah (jR.out.trans U (fun y hy=>.inl hy))⟩
    case measure=>have:=mH.out;simp [intOf];omega
   ·obtain rfl:t = x.l.length:=by omega
    clear jF
    have oM:=ah (nE.out.put HP.out (jV.out.mono (fun y hy=>.inl (by simp at hy;simp [hy]))) (show QB wr (gb n) (stS (gs n) A x.l x.l.length) (gm n) from Blk.chg HQ.out jV.out oL.out) wN.out (jQ.out.store HA.out.2.1 HA.out.2.2.2 HV8.out (kI.out _)))
    have jR:=ah (show Chg [gb n,gm n] W3 wr from jV.out.mono (fun y hy=>.inl (by simp at hy;simp [hy])))
    clear jV wN
    go_wp2_with fail
    refine (dd 0 _).mono ?_
    rintro e W5 ⟨rfl,U⟩
    have jL:=ah U
    have oW:=ah (show Chg [gb n,gm n] W3 W5 from jR.out.stay U)
    clear U
    go_wp2_with (first|refine au (b:=b6) (x:=zRs) (v:=zV) (y:=aq 0) (u:=zV) rfl _ _ rfl rfl rfl rfl (Blk.chg (kD.out W3 HS.out) oW.out (by have h1:=HB.out;have h2:=jK.out (gb n) (.inr (.inr (.inr (.inr ⟨n,p,HP.out,.inl rfl⟩))));have h3:=jK.out (gm n) (.inr (.inr (.inr (.inr ⟨n,p,HP.out,.inr rfl⟩))));simp;omega)) ?_;intro W6 h6 iZ)
    refine bodyPost_ret (v:=.agg (rsc (aq 0) zV)) (results_cell_row (p:=6) (ty:=40) rfl _ _ b6 40 _ (0,0) _ rfl h6 Tryz.underlying40 rfl ct) rfl ?_
    obtain rfl:RR = (aq 0,some { M with pr:=upd M.pr n (some { p with pg:=upd p.pg ((A / 256:Nat):Int) (some (cj (gj p ((A / 256:Nat):Int)) (A % 256) x.l)) }) }):=by rw [jC.out,if_neg (by rw [← lN.out];decide),if_neg (by rw [← lN.out];decide)]
    refine ⟨none,0,0,rfl,RE.nil ucl 1 _ none 0,fun _ hk=>(bw hk).elim,⟨sp,(upN gs n (stS (gs n) A x.l x.l.length)),?_⟩,?_⟩
    ·show WIn W6 m { M with pr:=upd M.pr n (some { p with pg:=upd p.pg ((A / 256:Nat):Int) (some (cj (gj p ((A / 256:Nat):Int)) (A % 256) x.l)) }) } sp vo ve L E gb gm (upN gs n (stS (gs n) A x.l x.l.length))
     exact ((oM.out.stay jL.out)).new (B:=w.heap.size) (fun k hk=>jK.out k (hk.sub (mt HP.out _))) iZ (fun y hy=>by obtain rfl:=aa hy;have:=HB.out;omega)
    ·exact (((jJ.out.stay HS.out).up [m,gb n,gm n]).trans oW.out (fun y hy=>.inl (by simp at hy;simp;omega))).trans iZ (fun y hy=>.inr (by obtain rfl:=aa hy;have:=HB.out;omega))
 ·clear h0
  have CH:=ah (HVB.out.stay HS.out)
  have oL:=ah (show gb n∉[gm n] from by simp;exact Blk.ne_map HQ.out nP.out)
  have oY:=ah (show b3∉[gm n] from by have h1:=HB.out;have h3:=jK.out (gm n) (.inr (.inr (.inr (.inr ⟨n,p,HP.out,.inr rfl⟩))));simp;omega)
  have HNV:=ah (show ∀k∈own v,k∉[gm n] from fun k hk kL=>by obtain rfl:=aa kL;exact RB.not_map CH.out (by intro e;have:=HA.out;rw [e] at this;simp at this) nP.out hk)
  obtain ⟨Av,cv,xF⟩:=CH.out.form
  have Ah:=ah xF
  rw [xF] at r11
  clear xF
  go_upto_region 43 with (fail)
  clear sB
  go_loopw [12] (fun iv wr=>∃t:Nat,t≤x.l.length∧iv = .int .i64 t∧Hid (MapB wr (gm n) .i64 (byF (stS (gs n) A x.l t)))∧Hid (Chg [gm n] W3 wr)) (fun iv _=>x.l.length - (intOf iv).toNat)
  case atStart=>exact ⟨0,by omega,rfl,ah (by rw [cU];exact nP.out),ah (Chg.refl _ _)⟩
  case round =>
   obtain ⟨t,ht,rfl,wN,jV⟩:=hrel
   obtain ⟨s0,-,-,-,-,s5,-,-,-,-,-,s11,sl,-⟩:=KB.cells (show KB wr b3 x v from Blk.chg (kY.out W3 HS.out) jV.out oY.out)
   rw [← show az = x.a by rw [tS.out];exact HA.out.1.symm] at s5
   rw [Ah.out] at s11
   have i1:(t:Int) < 257:=by have:=HA.out;omega
   have i2:(x.l.length:Int) < 257:=by have:=HA.out;omega
   clear r0 r1 r3 r4 r5 r6 r7 r8 r9 r11 rl gl ml
   by_cases jF:t < x.l.length
   ·have mH:=ah jF
    go_upto_region 45 with (fail)
    clear s0 s5 s11 sl
    refine rgt [0,0,0,1,0,1,0,0,0,1,0,0,1,3] [none,none,none,none,none,none,none,none,none,none,none,none,none,none] (fun _=>True) ?_
    have mE:Chg [] wr wr.drew:=(Chg.refl [] wr).drew
    have zF:=ah (wN.out.stay mE)
    have jR:=ah (jV.out.stay mE)
    generalize wr.drew = W4 at mE zF jR ⊢
    clear mE wN
    obtain ⟨s0,-,-,-,-,s5,-,-,-,-,-,s11,sl,-⟩:=KB.cells (show KB W4 b3 x v from Blk.chg (kY.out W3 HS.out) jR.out oY.out)
    rw [← show az = x.a by rw [tS.out];exact HA.out.1.symm] at s5
    rw [Ah.out] at s11
    have zI:QB W4 (gb n) (gs n) (gm n):=Blk.chg HQ.out jR.out oL.out
    have gl':=Blk.lt zI
    have rD:=zI.bmap
    have xE:RB W4 v x.l:=CH.out.chg jR.out HNV.out
    rw [Ah.out] at xE
    obtain ⟨vg,vo_,rfl⟩:=xE.addr (by omega)
    have uL:=RE.cell (size:=1) (enc:=ucl) (fun _=>rfl) xE (k:=t) (j:=0) jF Nat.zero_lt_one rfl
    rw [Nat.mul_one,Nat.add_zero] at uL
    obtain ⟨y,hy⟩:∃y:Nat,y = x.l[t]:=⟨_,rfl⟩
    have Dh:W4.cell? ⟨vg,vo_+t,none⟩ = some (.int .u8 (y:Nat)):=by rw [hy];exact uL
    clear uL
    have HY:=ah hy
    clear zI xE hy
    go_wp2_with (first|refine ao fun K I=>?_;refine fd (val:=.int .u8 (y:Nat)) _ _ _ rfl Tryz.underlying96 Tryz.underlying3 rfl rfl rfl zF.out ?_;intro W5 h5 U;refine I _ _ ?_;clear I K|refine av fun K I=>?_|refine ai fun K I=>?_;go_simp;refine I _ _ ?_;clear I K|refine ao fun K I=>?_;go_simp|refine aj ?_)
    go_roundw
    case rel =>
     have e:wrap64 (az+(t:Int)) = ((A+t:Nat):Int):=by rw [tS.out];have:=HA.out;unfold wrap64;omega
     rw [e,HY.out] at h5
     exact ⟨t+1,mH.out,by go_num,ah (by rw [fI _ _ mH.out];exact h5),ah (jR.out.trans U (fun y hy=>.inl hy))⟩
    case measure=>have:=mH.out;simp [intOf];omega
   ·obtain rfl:t = x.l.length:=by omega
    clear jF
    have oM:=ah (nE.out.put HP.out (jV.out.mono (fun y hy=>.inl (by simp at hy;simp [hy]))) (show QB wr (gb n) (stS (gs n) A x.l x.l.length) (gm n) from Blk.chg HQ.out jV.out oL.out) wN.out (jQ.out.store HA.out.2.1 HA.out.2.2.2 HV8.out (kI.out _)))
    have jR:=ah (show Chg [gb n,gm n] W3 wr from jV.out.mono (fun y hy=>.inl (by simp at hy;simp [hy])))
    clear jV wN
    go_wp2_with fail
    refine (dd 0 _).mono ?_
    rintro e W5 ⟨rfl,U⟩
    have jL:=ah U
    have oW:=ah (show Chg [gb n,gm n] W3 W5 from jR.out.stay U)
    clear U
    go_wp2_with (first|refine au (b:=b6) (x:=zRs) (v:=zV) (y:=aq 0) (u:=zV) rfl _ _ rfl rfl rfl rfl (Blk.chg (kD.out W3 HS.out) oW.out (by have h1:=HB.out;have h2:=jK.out (gb n) (.inr (.inr (.inr (.inr ⟨n,p,HP.out,.inl rfl⟩))));have h3:=jK.out (gm n) (.inr (.inr (.inr (.inr ⟨n,p,HP.out,.inr rfl⟩))));simp;omega)) ?_;intro W6 h6 iZ)
    refine bodyPost_ret (v:=.agg (rsc (aq 0) zV)) (results_cell_row (p:=6) (ty:=40) rfl _ _ b6 40 _ (0,0) _ rfl h6 Tryz.underlying40 rfl ct) rfl ?_
    obtain rfl:RR = (aq 0,some { M with pr:=upd M.pr n (some { p with pg:=upd p.pg ((A / 256:Nat):Int) (some (cj (gj p ((A / 256:Nat):Int)) (A % 256) x.l)) }) }):=by rw [jC.out,if_neg (by rw [← lN.out];decide),if_neg (by rw [← lN.out];decide)]
    refine ⟨none,0,0,rfl,RE.nil ucl 1 _ none 0,fun _ hk=>(bw hk).elim,⟨sp,(upN gs n (stS (gs n) A x.l x.l.length)),?_⟩,?_⟩
    ·show WIn W6 m { M with pr:=upd M.pr n (some { p with pg:=upd p.pg ((A / 256:Nat):Int) (some (cj (gj p ((A / 256:Nat):Int)) (A % 256) x.l)) }) } sp vo ve L E gb gm (upN gs n (stS (gs n) A x.l x.l.length))
     exact ((oM.out.stay jL.out)).new (B:=w.heap.size) (fun k hk=>jK.out k (hk.sub (mt HP.out _))) iZ (fun y hy=>by obtain rfl:=aa hy;have:=HB.out;omega)
    ·exact (((jJ.out.stay HS.out).up [m,gb n,gm n]).trans oW.out (fun y hy=>.inl (by simp at hy;simp;omega))).trans iZ (fun y hy=>.inr (by obtain rfl:=aa hy;have:=HB.out;omega))
end Go.Proofs.YtfoleblcaloeoaaGreatDoor
