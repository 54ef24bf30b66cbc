/- Texts merged for the claim. -/
import Derived.Test.YtfoleblcaloeoaaGreatDoorZbm
set_option maxHeartbeats 40000000
set_option maxRecDepth 20000
namespace Go.Proofs.YtfoleblcaloeoaaGreatDoor
open Go Go.RowKit
def bdS (s:Sq) (g k m t:Nat):Sq:={ s with ow:=fun q=>if g≤q∧q < g+t then true else s.ow q,po:=fun q=>if g≤q∧q < g+t then (k,m) else s.po q }
theorem bdS_zero (s:Sq) (g k m:Nat):bdS s g k m 0 = s:=by
 obtain ⟨a1,a2,a3,a4,a5,a6⟩:=s
 unfold bdS
 simp only [Sq.mk.injEq,true_and,and_true]
 refine ⟨?_,?_⟩
 ·funext q;rw [if_neg (by omega)]
 ·funext q;rw [if_neg (by omega)]
theorem bdS_step (s:Sq) (g k m t:Nat):({ ({ bdS s g k m t with ow:=upN (bdS s g k m t).ow (g+t) true }:Sq) with po:=upN (bdS s g k m t).po (g+t) (k,m) }:Sq) = bdS s g k m (t+1):=by
 unfold bdS
 simp only [Sq.mk.injEq,true_and,and_true]
 refine ⟨?_,?_⟩
 ·funext q
  unfold upN
  dsimp only
  by_cases e:q = g+t
  ·rw [if_pos e,if_pos (by omega)]
  ·rw [if_neg e]
   by_cases e2:g≤q∧q < g+t
   ·rw [if_pos e2,if_pos (by omega)]
   ·rw [if_neg e2,if_neg (by omega)]
 ·funext q
  unfold upN
  dsimp only
  by_cases e:q = g+t
  ·rw [if_pos e,if_pos (by omega)]
  ·rw [if_neg e]
   by_cases e2:g≤q∧q < g+t
   ·rw [if_pos e2,if_pos (by omega)]
   ·rw [if_neg e2,if_neg (by omega)]
theorem RelP.bind {p:Pr} {s:Sq} (h:RelP p s) (g c k m:Nat):RelP { p with ow:=fun q=>if inR g c q then some (k,m) else p.ow q } (bdS s g k m c):=by
 refine ⟨h.rt,h.by_,h.b8,fun q hq=>?_,fun q hq v hv=>?_,h.ak,h.am⟩
 ·show (if g≤q∧q < g+c then true else s.ow q) = ((if inR g c q then some (k,m) else p.ow q:Option (Nat × Nat))).isSome
  by_cases e:g≤q∧q < g+c
  ·rw [if_pos e,show inR g c q = true from ae (by omega)];rfl
  ·rw [if_neg e,show inR g c q = false from ac (by omega)]
   exact h.ow q hq
 ·have qV:(if inR g c q then some (k,m) else p.ow q:Option (Nat × Nat)) = some v:=hv
  show (if g≤q∧q < g+c then (k,m) else s.po q) = v
  by_cases e:g≤q∧q < g+c
  ·rw [show inR g c q = true from ae (by omega)] at qV
   rw [if_pos e]
   exact Option.some.inj qV
  ·rw [show inR g c q = false from ac (by omega)] at qV
   rw [if_neg e]
   exact h.po q hq v qV
theorem fC {o:Oper} {a:Act} {w:World} {K:Act→World→Prop} {Q:Exit→Act→World→Prop} {b:Nat} {s:Sq} {bm i k m:Nat} (x y:Operand) (ho:o.op = .store 45 x y) (hx:a.eval x = .pointer (some ⟨b,2049+i * 2,none⟩)) (hy:a.eval y = .agg #[.int .u8 k,.int .u8 m]) (h0:QB w b s bm) (hi:i < 1024)
  (h:∀w',QB w' b { s with po:=upN s.po i (k,m) } bm→Chg [b] w w'→K (a.put o.dst undef) w'):o.wp Tryz.prog a w K Q :=
 wp_store_mid 45 x y ho b (2049+i * 2) #[.int .u8 k,.int .u8 m] hx hy (fun j hj=>by
  have sL:j < 2:=hj
  refine ⟨?_,Blk.frozen h0 _⟩
  match j,sL with
  | 0,_=>rw [Nat.add_zero,(QB.po h0 hi).1];rfl
  | 1,_=>rw [(QB.po h0 hi).2];rfl) kx (by simp [show ∀k z,(Value.int k z).oneCell' = true from fun _ _=>rfl]) (h _ (QB.set_po h0 hi k m) (((Chg.refl [b] w).setCell (p:=⟨b,2049+i * 2,none⟩) (.inl (by simp)) _).setCell (p:=⟨b,2049+i * 2+1,none⟩) (.inl (by simp)) _))
theorem cP {w:World} {m:Nat} {M:Mo} {sp:Nat→Option Nat} {vo ve:Value} {L:List Ob} {E:List Nat} {gb gm:Nat→Nat} {gs:Nat→Sq} (h:WIn w m M sp vo ve L E gb gm gs) (jF:∀k,FW' M m vo ve L gb gm k→k < w.heap.size)
  {x:Cl} (hx:x.Ok) {n:Nat} (kX:x.p = n) {p:Pr} (hp:M.pr n = some p) (hs:Ar.Sp p.rl) (hk:x.k = 15) {g:Nat} (hg:x.g = g) {c:Nat} (hc:x.c = c) (jH:1≤c) (BN:g+c≤1024) (v:Value) (hv:v.oneCell' = true) :
  Calls Tryz.prog 77 #[.pointer (some ⟨m,0,none⟩),.pointer (some ⟨gb n,0,none⟩),.agg (clc x v)] w fun e w'=>SpR w w' m M vo ve L E gb gm n (cd M x 0 p) e:=by
 obtain ⟨n1,n8⟩:=h.rng n p hp
 have mW:n < 9:=by omega
 have hR:cd M x 0 p = (if Ar.mdE p.rl g c≠0 then (aq 7,none) else (aq 0,some { M with pr:=upd M.pr n (some { p with ow:=fun q=>if inR g c q then some (x.ok,x.om) else p.ow q }) })):=by
  unfold cd
  rw [if_neg (by omega),if_neg (by omega),if_neg (by omega),if_neg (by omega),if_neg (by omega),show max x.c 1 = (c:Int) by omega,hg,hc,kX]
  split
  ·rfl
  ·rw [if_neg (by omega)]
 obtain ⟨RR,kB⟩:∃R,R = cd M x 0 p:=⟨_,rfl⟩
 rw [← kB]
 rw [hR] at kB
 have jC:=ah kB
 clear hR kB
 obtain ⟨W1,jG⟩:∃W1,W1 = w.alloc (.cells (clc x v) 47):=⟨_,rfl⟩
 obtain ⟨W2,jB⟩:∃W2,W2 = W1.alloc (.cells (rsc zRs zV) 40):=⟨_,rfl⟩
 have c01:Chg [] w W1:=by rw [jG];exact (Chg.refl [] w).alloc _
 have c12:Chg [] W1 W2:=by rw [jB];exact (Chg.refl [] W1).alloc _
 have kG:KB W2 w.heap.size x v:=KB.stay (by rw [jG];exact Blk.new w _ _) c12
 have kJ:XB W2 W1.heap.size zRs zV:=by rw [jB];exact Blk.new W1 _ _
 have e1:W1.heap.size = w.heap.size+1:=by rw [jG];exact af _ _
 obtain ⟨b3,jS⟩:∃y,y = w.heap.size:=⟨_,rfl⟩
 obtain ⟨b6,kV⟩:∃y,y = W1.heap.size:=⟨_,rfl⟩
 rw [← jS] at kG
 rw [← kV] at kJ
 have HI:=ah (fun W (hc:Chg [] W2 W)=>h.stay ((c01.stay c12).stay hc))
 have kY:=ah (fun W (hc:Chg [] W2 W)=>(KB.stay kG hc:KB W b3 x v))
 have kD:=ah (fun W (hc:Chg [] W2 W)=>(XB.stay kJ hc:XB W b6 zRs zV))
 have jJ:=ah (c01.stay c12)
 have kW:=ah jG
 have jP:=ah jB
 have HB:=ah (show b3 = w.heap.size∧b6 = w.heap.size+1 by omega)
 have jY:=ah jS
 have kH:=ah kV
 have jK:=ah jF
 have HP:=ah hp
 have HN:=ah (show 1≤n∧n < 9 by omega)
 have mJ:=ah (And.intro hk kX)
 have pR:=ah hx
 have HG:=ah (And.intro hg (And.intro jH BN));have pQ:=ah hc;have lI:=ah hs
 clear h jF hx kX hp c01 c12 kG kJ e1 jS kV jG jB n1 n8 mW hk hg hc jH BN hs
 go_enter Tryz.func77,Tryz.ntmps77
 go_upto_region 1 with (first|refine ax rfl _ rfl rfl ?_;try rw [← kW.out]|refine bn rfl rfl ?_;try rw [← jP.out])
 try rw [← jY.out,← kH.out]
 refine uh [0,1,0,1,0,0] ?_
 have hS:Chg [] W2 W2.drew:=(Chg.refl [] W2).drew
 generalize W2.drew = W3 at hS ⊢
 have HS:=ah hS
 have hI:=HI.out W3 hS
 obtain ⟨hq,lS,hrel⟩:=hI.pr n p HP.out
 have nE:=ah hI
 have HQ:=ah hq
 have nP:=ah lS
 have jQ:=ah hrel
 obtain ⟨r0,r1,-,r3,r4,r5,r6,r7,r8,r9,-,r11,rl,-⟩:=KB.cells (kY.out W3 hS)
 rw [mJ.out.1] at r0
 rw [mJ.out.2] at r1
 have gl:=Blk.lt hq
 have ml:=Blk.lt hI.blk
 rw [HG.out.1] at r3
 rw [pQ.out] at r4
 have lV:=ah (ip hq (p:=g) (c:=c) HG.out.2.2)
 clear hS hI hq lS hrel
 go_wp2_with (first|refine av fun K I=>?_|refine ai fun K I=>?_;go_simp;refine I _ _ ?_;clear I K|refine ao fun K I=>?_;go_simp|refine aj ?_)
 refine lV.out.mono ?_
 rintro e W4 ⟨⟨rfl,jX⟩ | ⟨rfl,jZ⟩,rfl⟩
 case inr =>
  obtain rfl:RR = (aq 7,none):=by rw [jC.out];exact if_pos (by rw [bU jQ.out lI.out HG.out.2.1 HG.out.2.2 jZ];decide)
  clear jZ lV
  go_wp2_with fail
  refine (dd 7 _).mono ?_
  rintro e W5 ⟨rfl,U⟩
  have jM:=ah U
  clear U
  go_wp2_with (first|refine au (b:=b6) (x:=zRs) (v:=zV) (y:=aq 7) (u:=zV) rfl _ _ rfl rfl rfl rfl (XB.stay (kD.out W3 HS.out) jM.out) ?_;intro W6 h6 iZ)
  refine bodyPost_ret (v:=.agg (rsc (aq 7) zV)) (results_cell_row (p:=6) (ty:=40) rfl _ _ b6 40 _ (0,0) _ rfl h6 Tryz.underlying40 rfl ct) rfl ?_
  refine ⟨none,0,0,rfl,RE.nil ucl 1 _ none 0,fun _ hk=>(bw hk).elim,⟨sp,gs,?_⟩,?_⟩
  ·exact (nE.out.stay jM.out).new (B:=w.heap.size) jK.out iZ (fun y hy=>by obtain rfl:=aa hy;have:=HB.out;omega)
  ·exact (((jJ.out.stay HS.out).stay jM.out).up [m,gb n,gm n]).trans iZ (fun y hy=>.inr (by obtain rfl:=aa hy;have:=HB.out;omega))
 obtain rfl:RR = (aq 0,some { M with pr:=upd M.pr n (some { p with ow:=fun q=>if inR g c q then some (x.ok,x.om) else p.ow q }) }):=by rw [jC.out];exact if_neg (fun hn=>hn (wj jQ.out lI.out HG.out.2.1 HG.out.2.2 jX))
 clear jX lV
 have oL:=ah (show gb n∉[gm n] from by simp;exact Blk.ne_map HQ.out nP.out)
 have oY:=ah (show b3∉[gb n] from by have h1:=HB.out;have h3:=jK.out (gb n) (.inr (.inr (.inr (.inr ⟨n,p,HP.out,.inl rfl⟩))));simp;omega)
 have hwe:IntKind.i64.wrap ((g:Int)+(c:Int)) = (g:Int)+(c:Int):=by rw [IntKind.wrap_i64];have:=HG.out;omega
 go_upto_region 26 with (fail)
 go_loopw [9] (fun iv wr=>∃t:Nat,t≤c∧iv = .int .i64 ((g+t:Nat):Int)∧Hid (QB wr (gb n) (bdS (gs n) g x.ok x.om t) (gm n))∧Hid (Chg [gb n] W3 wr)) (fun iv _=>g+c - (intOf iv).toNat)
 case atStart=>exact ⟨0,by omega,by simp,ah (by rw [bdS_zero];exact HQ.out),ah (Chg.refl _ _)⟩
 case round =>
  obtain ⟨t,ht,rfl,Dy,jV⟩:=hrel
  clear r0 r1 r3 r4 r5 r6 r7 r8 r9 r11 rl gl ml
  by_cases jF:t < c
  ·have mH:=ah jF
   have dl:decide (((g+t:Nat):Int) < (g:Int)+(c:Int)) = true:=ae (by omega)
   have i0:(0:Int)≤((g+t:Nat):Int):=by omega
   have i1:((g+t:Nat):Int) < 1024:=by have:=HG.out;omega
   have mS:IntKind.i64.wrap (((g+t:Nat):Int)+1) = ((g+t:Nat):Int)+1:=by rw [IntKind.wrap_i64];have:=HG.out;omega
   have qF:g+t < 1024:=by have:=HG.out;omega
   have HGT:=ah qF
   have Ev:=QB.ow Dy.out qF
   have vN:=Blk.frozen Dy.out (1025+(g+t))
   have Ex:=Blk.lt Dy.out
   clear ht jF qF
   go_upto_region 29 with (fail)
   clear Ev vN Ex
   refine rgt [0,0,0,5,0,0,0,3] [none,none,none,none,none,none,none,none] (fun W=>KB W b3 x v) ?_
   have zI:=ah (Blk.drew (QB.set_ow Dy.out HGT.out true))
   have jT:Chg [gb n] wr (wr.setCell ⟨gb n,1025+(g+t),none⟩ (.bool true)).drew:=((Chg.refl [gb n] wr).setCell (p:=⟨gb n,1025+(g+t),none⟩) (.inl (by simp)) _).drew
   generalize (wr.setCell ⟨gb n,1025+(g+t),none⟩ (.bool true)).drew = W4 at jT zI ⊢
   have jR:=ah (jV.out.and_ jT)
   clear jV jT Dy
   have hS:KB W4 b3 x v:=Blk.chg (kY.out W3 HS.out) jR.out oY.out
   have Ex:=Blk.lt zI.out
   go_wp2_with (first|refine al 45 _ rfl rfl (fun w' J=>zf J) hS ?_|refine ao fun K I=>?_;refine fC (i:=g+t) (k:=x.ok) (m:=x.om) _ _ rfl rfl rfl zI.out HGT.out ?_;intro W7 h7 jI;have H7:=ah h7;have qX:=ah jI;clear h7 jI;refine I _ _ ?_;clear I K|refine av fun K I=>?_|refine ai fun K I=>?_;go_simp;refine I _ _ ?_;clear I K|refine ao fun K I=>?_;go_simp|refine aj ?_)
   clear hS Ex
   go_roundw
   case rel=>exact ⟨t+1,mH.out,by go_num,ah (by have:=H7.out;rw [bdS_step] at this;exact this),ah (jR.out.and_ qX.out)⟩
   case measure=>have:=mH.out;simp [intOf];omega
  ·obtain rfl:t = c:=by omega
   have dl:decide (((g+t:Nat):Int) < (g:Int)+(t:Int)) = false:=ac (by omega)
   clear jF ht
   have oM:=ah (nE.out.put HP.out (jV.out.mono (fun y hy=>.inl (by simp at hy;simp [hy]))) Dy.out (show MapB wr (gm n) .i64 (byF (bdS (gs n) g x.ok x.om t)) from nP.out.chg jV.out (by simp;exact fun e=>Blk.ne_map HQ.out nP.out e.symm)) (jQ.out.bind g t x.ok x.om))
   have jR:=ah (show Chg [gb n,gm n] W3 wr from jV.out.mono (fun y hy=>.inl (by simp at hy;simp [hy])))
   clear jV Dy
   go_wp2_with fail
   refine (dd 0 _).mono ?_
   rintro e W5 ⟨rfl,U⟩
   have jL:=ah U
   have oW:=ah (show Chg [gb n,gm n] W3 W5 from jR.out.stay U)
   clear U
   go_wp2_with (first|refine au (b:=b6) (x:=zRs) (v:=zV) (y:=aq 0) (u:=zV) rfl _ _ rfl rfl rfl rfl (Blk.chg (kD.out W3 HS.out) oW.out (by have h1:=HB.out;have h2:=jK.out (gb n) (.inr (.inr (.inr (.inr ⟨n,p,HP.out,.inl rfl⟩))));have h3:=jK.out (gm n) (.inr (.inr (.inr (.inr ⟨n,p,HP.out,.inr rfl⟩))));simp;omega)) ?_;intro W6 h6 iZ)
   refine bodyPost_ret (v:=.agg (rsc (aq 0) zV)) (results_cell_row (p:=6) (ty:=40) rfl _ _ b6 40 _ (0,0) _ rfl h6 Tryz.underlying40 rfl ct) rfl ?_
   refine ⟨none,0,0,rfl,RE.nil ucl 1 _ none 0,fun _ hk=>(bw hk).elim,⟨sp,(upN gs n (bdS (gs n) g x.ok x.om t)),?_⟩,?_⟩
   ·show WIn W6 m { M with pr:=upd M.pr n (some { p with ow:=fun q=>if inR g t q then some (x.ok,x.om) else p.ow q }) } sp vo ve L E gb gm (upN gs n (bdS (gs n) g x.ok x.om t))
    exact ((oM.out.stay jL.out)).new (B:=w.heap.size) (fun k hk=>jK.out k (hk.sub (mt HP.out _))) iZ (fun y hy=>by obtain rfl:=aa hy;have:=HB.out;omega)
   ·exact (((jJ.out.stay HS.out).up [m,gb n,gm n]).trans oW.out (fun y hy=>.inl (by simp at hy;simp;omega))).trans iZ (fun y hy=>.inr (by obtain rfl:=aa hy;have:=HB.out;omega))
theorem find_lt {L:List Ob} (pM:L.Pairwise fun a b=>a.h≠b.h) {k:Nat} (hk:k < L.length):(L.find? fun o=>decide ((o.h:Int) = (L[k].h:Int))) = some L[k]:=by
 rw [List.find?_eq_some_iff_getElem]
 refine ⟨by simp,k,hk,rfl,fun j hj=>?_⟩
 have:=List.pairwise_iff_getElem.1 pM j k (by omega) hk hj
 have h2:¬ ((L[j].h:Int) = (L[k].h:Int)):=fun e=>this (by omega)
 simp [h2]
theorem vf {L:List Ob} {z:Int} (h:∀o∈L,(o.h:Int)≠z):(L.find? fun o=>decide ((o.h:Int) = z)) = none:=by
 rw [List.find?_eq_none]
 intro o ho
 simpa using h o ho
theorem qr {L:List Ob} {k:Nat} (hk:k < L.length):L = L.take k ++ L[k] :: L.drop (k+1):=by
 rw [List.getElem_cons_drop,List.take_append_drop]
theorem ui {L:List Ob} {k:Nat} (hk:k < L.length) (x:Ob):L.set k x = L.take k ++ x :: L.drop (k+1):=by
 rw [List.set_eq_take_append_cons_drop,if_pos hk]
section
variable {w w':World} {vo:Value} {L:List Ob} {ob:Int→Option (List Nat)}
theorem OIn.none_ (h:OIn w vo L ob) {z:Nat} (hz:∀o∈L,o.h≠z):ob (z:Int) = none:=by
 rw [h.lk,vf (fun o ho e=>hz o ho (by omega))]
 rfl
theorem OIn.at_ (h:OIn w vo L ob) {k:Nat} (hk:k < L.length):ob (L[k].h:Int) = some L[k].l:=by
 rw [h.lk,find_lt h.nd hk]
 rfl
theorem OIn.none_iff (h:OIn w vo L ob) {z:Nat} (hz:ob (z:Int) = none):∀o∈L,o.h≠z:=by
 intro o ho e
 obtain ⟨k,hk,rfl⟩:=List.getElem_of_mem ho
 have:=h.at_ hk
 rw [e,hz] at this
 cases this
theorem OIn.del (h:OIn w vo L ob) {k:Nat} (hk:k < L.length) {vo':Value} (hs:SE obl 2 92 w' vo' (L.take k ++ L.drop (k+1))) (hc:Chg [] w w'):OIn w' vo' (L.take k ++ L.drop (k+1)) (upd ob (L[k].h:Int) none):=by
 have sub:∀o∈L.take k ++ L.drop (k+1),o∈L:=fun o ho=>by
  rcases List.mem_append.1 ho with ho | ho
  ·exact List.mem_of_mem_take ho
  ·exact List.mem_of_mem_drop ho
 have sl:(L.take k ++ L.drop (k+1)).Sublist L:=by
  rw [← List.eraseIdx_eq_take_drop_succ]
  exact List.eraseIdx_sublist ..
 refine ⟨hs,fun o ho=>⟨SE.stay (h.bt o (sub o ho)).1 hc,(h.bt o (sub o ho)).2⟩,h.nd.sublist sl,h.ap.sublist sl,fun z=>?_⟩
 unfold upd
 by_cases e:z = (L[k].h:Int)
 ·rw [if_pos e,vf]
  ·rfl
  ·intro o ho e2
   have hn:=h.nd
   rw [qr hk] at hn
   rw [List.pairwise_append] at hn
   obtain ⟨n1,n2,n3⟩:=hn
   rw [List.pairwise_cons] at n2
   rcases List.mem_append.1 ho with ho | ho
   ·exact n3 o ho L[k] (List.mem_cons_self ..) (by omega)
   ·exact n2.1 o ho (by omega)
 ·rw [if_neg e,h.lk]
  have e1:(L.find? fun o=>decide ((o.h:Int) = z)) = (L.take k ++ L[k] :: L.drop (k+1)).find? fun o=>decide ((o.h:Int) = z):=by rw [← qr hk]
  rw [e1,List.find?_append,List.find?_append,List.find?_cons_of_neg]
  simp
  omega
theorem find_set {k:Nat} (hk:k < L.length) (B:List Nat) (v:Value) (z:Int) (pM:L.Pairwise fun a b=>a.h≠b.h) (rF:∀z:Int,ob z = (L.find? fun o=>decide ((o.h:Int) = z)).map (·.l)):upd ob (L[k].h:Int) (some B) z = ((L.set k ⟨L[k].h,B,v⟩).find? fun o=>decide ((o.h:Int) = z)).map (·.l):=by
 unfold upd
 rw [ui hk,List.find?_append]
 have hn:=pM
 rw [qr hk,List.pairwise_append] at hn
 obtain ⟨n1,n2,n3⟩:=hn
 by_cases e:z = (L[k].h:Int)
 ·rw [if_pos e,vf,List.find?_cons_of_pos]
  ·rfl
  ·simp [e]
  ·intro o ho e2
   exact n3 o ho L[k] (List.mem_cons_self ..) (by omega)
 ·rw [if_neg e,rF]
  have e1:(L.find? fun o=>decide ((o.h:Int) = z)) = (L.take k ++ L[k] :: L.drop (k+1)).find? fun o=>decide ((o.h:Int) = z):=by rw [← qr hk]
  have e3:¬ ((L[k].h:Int) = z):=fun x=>e x.symm
  rw [e1,List.find?_append,List.find?_cons_of_neg,List.find?_cons_of_neg]
  ·simpa using e3
  ·simpa using e3
theorem OIn.poke (h:OIn w vo L ob) {k:Nat} (hk:k < L.length) {g off n c j y:Nat} (hv:L[k].v = .slice (some ⟨g,off,none⟩) n c) (hj:j < L[k].l.length) (hy:y < 256) :
  OIn (w.setCell ⟨g,off+j,none⟩ (.int .u8 (y:Nat))) vo (L.set k ⟨L[k].h,L[k].l.set j y,L[k].v⟩) (upd ob (L[k].h:Int) (some (L[k].l.set j y))):=by
 have hg:g∈own L[k].v:=by rw [hv];exact gh ▸ List.mem_singleton.2 rfl
 obtain ⟨b1,b2,b3⟩:=h.bt L[k] (List.getElem_mem hk)
 have hc:Chg [g] w (w.setCell ⟨g,off+j,none⟩ (.int .u8 (y:Nat))):=(Chg.refl [g] w).setCell (p:=⟨g,off+j,none⟩) (.inl (by simp)) _
 have hnb:SB (w.setCell ⟨g,off+j,none⟩ (.int .u8 (y:Nat))) L[k].v (L[k].l.set j y):=by
  rw [hv] at b1 ⊢
  have:=SE.set (size:=1) (enc:=ucl) (fun _=>rfl) b1 (k:=j) (j:=0) hj Nat.zero_lt_one (u:=.int .u8 (y:Nat)) (x:=y) rfl
  rw [Nat.mul_one,Nat.add_zero] at this
  exact this
 have oth:∀i (hi:i < L.length),i≠k→∀q∈own L[i].v,q∉own L[k].v:=fun i hi jO q hq pN=>by
  rcases Nat.lt_or_gt_of_ne jO with jF | jF
  ·exact List.pairwise_iff_getElem.1 h.ap i k hi hk jF q hq pN
  ·exact List.pairwise_iff_getElem.1 h.ap k i hk hi jF q pN hq
 obtain ⟨gl,rW⟩:=Sl.blk b1 hg
 refine ⟨?_,fun o ho=>?_,?_,?_,fun z=>find_set hk _ _ z h.nd h.lk⟩
 ·have h1:=SE.chg h.sl hc (fun q hq=>by
   simp
   intro e
   subst e
   obtain ⟨cur,uN⟩:=Sl.blk h.sl hq
   exact Blk.ne_ uN rW (by decide) rfl)
  have e:fc obl (L.set k ⟨L[k].h,L[k].l.set j y,L[k].v⟩) = fc obl L:=by
   refine List.ext_getElem? fun i=>?_
   unfold fc
   rw [ui hk,List.flatMap_append,List.flatMap_cons]
   conv=>rhs;rw [qr hk,List.flatMap_append,List.flatMap_cons]
   rfl
  unfold SE at h1 ⊢
  rw [e,List.length_set]
  exact h1
 ·obtain ⟨i,hi,rfl⟩:=List.getElem_of_mem ho
  rw [List.length_set] at hi
  rw [List.getElem_set]
  split
  ·exact ⟨hnb,fun x hx=>(List.mem_or_eq_of_mem_set hx).elim (b2 x) (fun e=>by omega),b3⟩
  ·rename_i jO
   obtain ⟨c1,c2⟩:=h.bt L[i] (List.getElem_mem hi)
   exact ⟨SE.chg c1 hc (fun q hq pN=>by obtain rfl:=aa pN;exact oth i hi (fun e=>jO e.symm) _ hq hg),c2⟩
 ·rw [List.pairwise_iff_getElem]
  intro i i' hi qG jF
  rw [List.length_set] at hi qG
  have:=List.pairwise_iff_getElem.1 h.nd i i' hi qG jF
  rw [List.getElem_set,List.getElem_set]
  split <;> split <;> simp_all
 ·rw [List.pairwise_iff_getElem]
  intro i i' hi qG jF
  rw [List.length_set] at hi qG
  have:=List.pairwise_iff_getElem.1 h.ap i i' hi qG jF
  rw [List.getElem_set,List.getElem_set]
  split <;> split <;> simp_all
end
section
variable {w w':World} {m:Nat} {M:Mo} {sp:Nat→Option Nat} {vo ve:Value} {L:List Ob} {E:List Nat} {gb gm:Nat→Nat} {gs:Nat→Sq}
theorem WIn.other (h:WIn w m M sp vo ve L E gb gm gs) {g:Nat} (hc:Chg [g] w w') {t:TypeId} {cs:Array Value} (hg:Blk w g t cs) (t2:37≠t) (t3:100≠t) {vo':Value} {L':List Ob} {ob':Int→Option (List Nat)} (ho:OIn w' vo' L' ob') (hb:WB w' m M.c sp vo' ve) :
  WIn w' m { M with ob:=ob' } sp vo' ve L' E gb gm gs:=by
 refine ⟨hb,ho,h.ev.chg hc (fun q hq=>?_),h.sp,h.rng,fun n p hp=>?_,h.ib⟩
 ·simp
  rintro rfl
  obtain ⟨cur,uN⟩:=Sl.blk h.ev.sl hq
  exact Blk.ne_ uN hg t2 rfl
 ·obtain ⟨c1,c2,c3⟩:=h.pr n p hp
  exact ⟨Blk.chg c1 hc (by simp;exact Blk.ne_ c1 hg t3),c2.chg hc (by simp;exact fun e=>Blk.ne_map hg c2 e.symm),c3⟩
theorem WIn.poke (h:WIn w m M sp vo ve L E gb gm gs) {k:Nat} (hk:k < L.length) {g off n c j y:Nat} (hv:L[k].v = .slice (some ⟨g,off,none⟩) n c) (hj:j < L[k].l.length) (hy:y < 256) :
  WIn (w.setCell ⟨g,off+j,none⟩ (.int .u8 (y:Nat))) m { M with ob:=upd M.ob (L[k].h:Int) (some (L[k].l.set j y)) } sp vo ve (L.set k ⟨L[k].h,L[k].l.set j y,L[k].v⟩) E gb gm gs:=by
 have hg:g∈own L[k].v:=by rw [hv];exact gh ▸ List.mem_singleton.2 rfl
 obtain ⟨gl,rW⟩:=Sl.blk (h.ob.bt L[k] (List.getElem_mem hk)).1 hg
 have hc:Chg [g] w (w.setCell ⟨g,off+j,none⟩ (.int .u8 (y:Nat))):=(Chg.refl [g] w).setCell (p:=⟨g,off+j,none⟩) (.inl (by simp)) _
 exact h.other hc rW (by decide) (by decide) (h.ob.poke hk hv hj hy) (Blk.chg h.blk hc (by simp;exact Blk.ne_ h.blk rW (by decide)))
end
theorem cT {b l:List Nat} {a t:Nat} (h:a+l.length≤b.length) (ht:t < l.length):(cj b a (l.take t)).set (a+t) l[t] = cj b a (l.take (t+1)):=by
 refine List.ext_getElem? fun i=>?_
 have hl:∀u,u≤l.length→(cj b a (l.take u)).length = b.length:=fun u hu=>by
  unfold cj
  simp
  omega
 rw [List.getElem?_set]
 have g1:=su (b:=b) (l:=l.take t) (a:=a) (i:=i) (by rw [List.length_take];omega)
 have g2:=su (b:=b) (l:=l.take (t+1)) (a:=a) (i:=i) (by rw [List.length_take];omega)
 rw [List.length_take] at g1 g2
 by_cases hi:i < b.length
 ·rw [List.getD_eq_getElem?_getD,List.getElem?_eq_getElem (by rw [hl t (by omega)];exact hi),Option.getD_some] at g1
  rw [List.getD_eq_getElem?_getD,List.getElem?_eq_getElem (by rw [hl (t+1) (by omega)];exact hi),Option.getD_some] at g2
  rw [List.getElem?_eq_getElem (by rw [hl t (by omega)];exact hi),List.getElem?_eq_getElem (by rw [hl (t+1) (by omega)];exact hi),g1,g2]
  by_cases e:a+t = i
  ·rw [if_pos e,if_pos (by rw [hl t (by omega)];omega),if_pos (by omega),show i - a = t by omega,List.getD_eq_getElem?_getD,List.getElem?_take,if_pos (by omega),List.getElem?_eq_getElem ht]
   rfl
  ·rw [if_neg e]
   by_cases e2:a≤i∧i < a+min t l.length
   ·rw [if_pos e2,if_pos (by omega),List.getD_eq_getElem?_getD,List.getD_eq_getElem?_getD,List.getElem?_take,List.getElem?_take,if_pos (by omega),if_pos (by omega)]
   ·rw [if_neg e2,if_neg (by omega)]
 ·rw [List.getElem?_eq_none (by rw [hl t (by omega)];omega),List.getElem?_eq_none (by rw [hl (t+1) (by omega)];omega)]
  split
  ·rw [if_neg (by rw [hl t (by omega)];omega)]
  ·rfl
theorem uw (b:List Nat) (a:Nat) (l:List Nat):cj b a (l.take 0) = b:=by unfold cj;simp
def DoR (w w':World) (m:Nat) (M:Mo) (vo ve:Value) (L:List Ob) (E:List Nat) (gb gm:Nat→Nat) (R:Rs × Option Mo) (e:Ending):Prop :=
 ∃A k c,e = .returned (.agg (rsc R.1 (.slice A k c)))∧RB w' (.slice A k c) R.1.l∧(∀i∈own (.slice A k c),w.heap.size≤i)∧CP (FW' M m vo ve L gb gm) w w' ∧
  ∃sp' vo' L' gb' gm' gs',WIn w' m (if R.1.e = 0 then R.2.getD M else M) sp' vo' ve L' E gb' gm' gs'∧L'.length≤L.length ∧
   ∀k,FW' (if R.1.e = 0 then R.2.getD M else M) m vo' ve L' gb' gm' k→(FW' M m vo ve L gb gm k∧k < w'.heap.size)∨(w.heap.size≤k∧k < w'.heap.size)
theorem proc_sub {M M':Mo} {x:Cl} {v:Nat} {p:Pr} (hp:M.pr x.p = some p) (h:(cd M x v p).2 = some M'):(∀i q,M'.pr i = some q→∃q',M.pr i = some q'):=by
 have key:∀(o:Option Pr) i q,upd M.pr x.p o i = some q→∃q',M.pr i = some q':=fun o i q hq=>by
  unfold upd at hq
  split at hq
  ·rename_i e
   exact ⟨p,by rw [e];exact hp⟩
  ·exact ⟨q,hq⟩
 unfold cd at h
 repeat' split at h
 all_goals first
  | (obtain rfl:=Option.some.inj h;exact key _)
  | (cases h;done)
  | (rw [Option.map_eq_some_iff] at h;obtain ⟨q,_,rfl⟩:=h;exact key _)
  | (obtain rfl:=Option.some.inj h;exact fun i q hq=>⟨q,hq⟩)
theorem SpR.do_ {w w':World} {m:Nat} {M:Mo} {vo ve:Value} {L:List Ob} {E:List Nat} {gb gm:Nat→Nat} {n:Nat} {x:Cl} {p:Pr} {e:Ending} (jF:∀k,FW' M m vo ve L gb gm k→k < w.heap.size) (kX:x.p = n) (hp:M.pr n = some p) (h:SpR w w' m M vo ve L E gb gm n (cd M x 0 p) e):DoR w w' m M vo ve L E gb gm (cd M x 0 p) e:=by
 obtain ⟨A,k,c,h1,h2,h3,⟨sp',gs',h4⟩,h5⟩:=h
 refine ⟨A,k,c,h1,h2,h3,CP.of h5 (fun y hy=>.inl ?_),sp',vo,L,gb,gm,gs',h4,Nat.le_refl _,fun y hy=>.inl ?_⟩
 ·simp at hy
  rcases hy with rfl | rfl | rfl
  ·exact .inl rfl
  ·exact .inr (.inr (.inr (.inr ⟨n,p,hp,.inl rfl⟩)))
  ·exact .inr (.inr (.inr (.inr ⟨n,p,hp,.inr rfl⟩)))
 ·have hs:∀(i:Nat) q,(if (cd M x 0 p).1.e = 0 then (cd M x 0 p).2.getD M else M).pr i = some q→∃q',M.pr i = some q':=fun i q hq=>by
   split at hq
   ·cases hN:(cd M x 0 p).2 with
    | none=>rw [hN] at hq;exact ⟨q,hq⟩
    | some M' =>
     rw [hN] at hq
     exact proc_sub (by rw [kX];exact hp) hN i q hq
   ·exact ⟨q,hq⟩
  have:=hy.sub hs
  exact ⟨this,Nat.lt_of_lt_of_le (jF y this) h5.size⟩
theorem iT {w:World} {m:Nat} {M:Mo} {sp:Nat→Option Nat} {vo ve:Value} {L:List Ob} {E:List Nat} {gb gm:Nat→Nat} {gs:Nat→Sq} (h:WIn w m M sp vo ve L E gb gm gs) (jF:∀k,FW' M m vo ve L gb gm k→k < w.heap.size)
  {x:Cl} (hx:x.Ok) {n:Nat} (kX:x.p = n) {p:Pr} (hp:M.pr n = some p) (nS:MoOk M) (hw:ci M.c x = false) (hk:x.k≠1∧x.k≠10∧x.k≠11∧x.k≠12∧x.k≠13∧x.k≠19∧x.k≠20∧x.k≠21) (v:Value) (hv:v.oneCell' = true) (hvb:RB w v x.l) :
  Calls Tryz.prog 77 #[.pointer (some ⟨m,0,none⟩),.pointer (some ⟨gb n,0,none⟩),.agg (clc x v)] w fun e w'=>DoR w w' m M vo ve L E gb gm (cd M x 0 p) e:=by
 have key:Calls Tryz.prog 77 #[.pointer (some ⟨m,0,none⟩),.pointer (some ⟨gb n,0,none⟩),.agg (clc x v)] w fun e w'=>SpR w w' m M vo ve L E gb gm n (cd M x 0 p) e:=by
  obtain ⟨-,hs,jN,wH,Eu,uV,how⟩:=nS.pr n p hp
  have hc:∀k,x.k = k→(fld k).contains 99 = true→1≤x.c∧x.c≤1024∧0≤x.g∧x.g≤1024 - x.c:=fun k hk h=>qj hw (by rw [fk hk];exact h)
  have hg:∀k,x.k = k→(fld k).contains 103 = true→0≤x.g∧x.g≤1023:=fun k hk h=>nw_page hw (by rw [fk hk];exact h)
  have hr:∀k,x.k = k→(fld k).contains 114 = true→1≤x.r∧x.r≤3:=fun k hk h=>nw_right hw (by rw [fk hk];exact h)
  obtain ⟨k1,k2⟩:=fX hw
  have tE:x.k = 2∨x.k = 3∨x.k = 4∨x.k = 5∨x.k = 6∨x.k = 7∨x.k = 8∨x.k = 9∨x.k = 14∨x.k = 15∨x.k = 16∨x.k = 17∨x.k = 18:=by omega
  rcases tE with hk | hk | hk | hk | hk | hk | hk | hk | hk | hk | hk | hk | hk
  ·exact eR h jF hx kX hp hk v hv
  ·have h1:=hc _ hk rfl
   exact eS h jF hx kX hp hs hk (by omega) (hr _ hk rfl) v hv
  ·have h1:=hc _ hk rfl
   exact eT h jF hx kX hp hs hk (by omega) v hv
  ·have h1:=hc _ hk rfl
   exact eU h jF hx kX hp hs hk (by omega) (hr _ hk rfl) v hv
  ·have h1:=hc _ hk rfl
   exact eV h jF hx kX hp hs hk (g:=x.g.toNat) (by omega) (c:=x.c.toNat) (by omega) (by omega) (by omega) v hv
  ·have h1:=hc _ hk rfl
   exact eW h jF hx kX hp hs hk (g:=x.g.toNat) (by omega) (c:=x.c.toNat) (by omega) (by omega) (by omega) v hv
  ·obtain ⟨a1,a2,a3,a4⟩:=fY hw hk
   exact eX h jF hx kX hp hs jN hk (A:=x.a.toNat) (S:=x.s.toNat) (by omega) (by omega) (by omega) (by omega) (by omega) v hv
  ·obtain ⟨a1,a2,a3,a4⟩:=bW hw hk
   exact eY h jF hx kX hp hs jN hk (A:=x.a.toNat) (by omega) (by omega) (by omega) (by omega) hx.l v hv hvb
  ·exact cO h jF hx kX hp hk v hv
  ·have h1:=hc _ hk rfl
   exact cP h jF hx kX hp hs hk (g:=x.g.toNat) (by omega) (c:=x.c.toNat) (by omega) (by omega) (by omega) v hv
  ·have h1:=hg _ hk rfl
   exact cQ h jF hx kX hp ⟨Eu,uV,how⟩ hk (g:=x.g.toNat) (by omega) (by omega) v hv
  ·have h1:=hg _ hk rfl
   exact cR h jF hx kX hp hs hk (g:=x.g.toNat) (by omega) (by omega) (may_c (fq hw).2.1 (by rw [fk hk];rfl)) v hv
  ·have h1:=hc _ hk rfl
   exact cS h jF hx kX hp hs hk (g:=x.g.toNat) (by omega) (c:=x.c.toNat) (by omega) (by omega) (by omega) v hv
 exact key.mono fun e w' hS=>hS.do_ jF kX hp
end Go.Proofs.YtfoleblcaloeoaaGreatDoor
