/- Texts merged for the claim. -/
import Derived.Test.YtfoleblcaloeoaaGreatDoorZbn
set_option maxHeartbeats 40000000
set_option maxRecDepth 20000
namespace Go.Proofs.YtfoleblcaloeoaaGreatDoor
open Go Go.RowKit
theorem ru {a b:Int} (h:-9000000000000000000≤a∧a≤9000000000000000000) (e:a = b):wrap64 a = b∧IntKind.i64.wrap a = b:=by
 subst e
 exact ⟨by unfold wrap64;omega,by rw [IntKind.wrap_i64];omega⟩
theorem infoOb:(Tryz.prog.info? 92).map (·.size) = some 2:=by kernel_rfl
theorem info92b:(Tryz.prog.info? 92).map (fun i=>(i.zero,i.size,i.bytes)) = some (some (.agg #[.int .u64 0,zV]),2,32):=by kernel_rfl
theorem obl_one {L:List Ob} (h:∀o∈L,o.v.oneCell' = true):∀u∈fc obl L,u.oneCell' = true:=fun u hu=>by
 unfold fc at hu
 obtain ⟨o,ho,hx⟩:=List.mem_flatMap.1 hu
 simp [obl] at hx
 rcases hx with rfl | rfl
 ·rfl
 ·exact h o ho
theorem OIn.one {w:World} {vo:Value} {L:List Ob} {ob:Int→Option (List Nat)} (h:OIn w vo L ob):∀o∈L,o.v.oneCell' = true:=fun o ho=>by
 obtain ⟨A,c,e⟩:=SE.form (h.bt o ho).1
 rw [e];rfl
theorem eB {w:World} {g off n c:Nat} {L:List Ob} (h:RE obl 2 w (.slice (some ⟨g,off,none⟩) n c) L) {k:Nat} (hk:k < L.length):(loadVar 92 ⟨g,off+k * 2,none⟩).run Tryz.prog w = .ok (.agg #[.int .u64 L[k].h,L[k].v]) w:=by
 have c0:=RE.cell mq h hk (j:=0) (u:=.int .u64 L[k].h) (by omega) rfl
 have c1:=RE.cell mq h hk (j:=1) (u:=L[k].v) (by omega) rfl
 have:=run_loadVar_mid (P:=Tryz.prog) w g (off+k * 2) 92 [.int .u64 L[k].h,L[k].v] _ (fun j u hu=>by
  match j with
  | 0=>obtain rfl:=Option.some.inj hu;exact c0
  | 1=>obtain rfl:=Option.some.inj hu;exact c1
  | j+2=>cases hu) Tryz.underlying92 rfl infoOb
 simpa using this
abbrev OB (w:World) (b h:Nat) (v:Value):Prop:=Blk w b 92 #[.int .u64 h,v]
section
variable {ops:Array Oper} {rest:List Oper} {o:Oper} {a:Act} {w:World} {Q:Exit→Act→World→Prop} {b h h':Nat} {v u:Value}
theorem zero92:∀w,(zeroValue 92).run Tryz.prog w = .ok (.agg #[.int .u64 0,zV]) w:=by
 have h:(Tryz.prog.info? 92).map (fun i=>(i.zero,i.size)) = some (some (.agg #[.int .u64 0,zV]),2):=by kernel_rfl
 exact (zero_of_info h).1
theorem cF (w:World):(Instr.alloc 92 true (.tuple #[])).run Tryz.prog w = .ok (.pointer (some ⟨w.heap.size,0,none⟩)) (w.alloc (.cells #[.int .u64 ((0:Nat):Int),zV] 92)):=by
 simp [Instr.alloc,Sem.run_bind,zero92,newVar,newRow,run_newObj_alloc,Value.cells,zV]
theorem ma (hg:o.guard = none) (ho:o.op = .alloc 92)
  (h:∀w',OB w' w.heap.size 0 zV→Chg [] w w'→wpList Tryz.prog ops Q rest (a.put o.dst (.pointer (some ⟨w.heap.size,0,none⟩))) w'):wpList Tryz.prog ops Q (o :: rest) a w :=
 Great.wpList_runTo hg _ rfl _ _ (by unfold execOp;simp only [ho,Sem.run_bind,cF,Sem.run_pure,Result.andThen_ok]) (h _ (Blk.new w _ _) ((Chg.refl [] w).alloc _))
theorem mc (hg:o.guard = none) (z t:Operand) (ho:o.op = .store 92 z t) (hx:a.eval z = .pointer (some ⟨b,0,none⟩)) (hy:a.eval t = .agg #[.int .u64 h',u]) (hu:u.oneCell' = true) (h0:OB w b h v)
  (I:∀w',OB w' b h' u→Chg [b] w w'→wpList Tryz.prog ops Q rest (a.put o.dst undef) w'):wpList Tryz.prog ops Q (o :: rest) a w :=
 wpList_store_row hg 92 z t ho b _ hx hy 92 _ h0 infoOb rfl (by simp [hu,show ∀k z,(Value.int k z).oneCell' = true from fun _ _=>rfl]) (I _ (setRow_heap w b _ _ _ _ h0) ((Chg.refl [b] w).setRow (.inl (by simp)) _))
end
theorem kr {o:Oper} {a:Act} {w:World} {K:Act→World→Prop} {Q:Exit→Act→World→Prop} (s x:Operand)
  (ho:o.op = .call { callee:=.builtin .append,args:=#[s,x],argTypes:=#[77,77] }) (v y:Value) (hs:a.eval s = v) (hx:a.eval x = y) {l m:List Ob} (hv:SE obl 2 92 w v l) (hy:RE obl 2 w y m) (h1:∀o∈m,o.v.oneCell' = true) (jN:l.length+m.length≤1000000)
  (h:∀A n c w',Hid (n = (l ++ m).length)→SE obl 2 92 w' (.slice A n c) (l ++ m)→Chg (own v) w w'→Grow w v (.slice A n c)→K (a.put o.dst (.slice A n c)) w'):o.wp Tryz.prog a w K Q:=by
 obtain ⟨i5,hi,hz,vP,yX⟩:=info_parts info92b
 refine ll s x 77 ho 92 Tryz.underlying77 hi hz vP yX rfl hs hv hx hy (obl_one h1) (by unfold maxLen;omega) (by omega) fun v' w' h2 h3 h4=>?_
 have oG:SE obl 2 92 w' v' (l ++ m):=by
  unfold SE
  rw [List.length_append,lq]
  exact h2
 obtain ⟨A,c,rfl⟩:=oG.form
 exact h A _ c w' rfl oG h3 (rj h4)
theorem RE.take_ {α:Type} {enc:α→List Value} {size:Nat} (he:∀x,(enc x).length = size) {w:World} {A:Option Addr} {n c k:Nat} {l:List α} (h:RE enc size w (.slice A n c) l) (hk:k≤l.length):RE enc size w (.slice A k c) (l.take k):=by
 obtain ⟨h1,A',c',e,hc,h2⟩:=h
 injection e with e1 e2 e3
 subst e1;subst e2;subst e3
 unfold RE
 rw [List.length_take,Nat.min_eq_left hk]
 refine ⟨?_,_,_,rfl,by omega,fun hp=>?_⟩
 ·rw [ef he,List.length_take,Nat.min_eq_left hk]
 ·obtain ⟨g,off,e2,h3⟩:=h2 (by omega)
  refine ⟨g,off,e2,fun j u hu=>h3 j u ?_⟩
  rw [← fc_take he,List.getElem?_take] at hu
  split at hu
  ·exact hu
  ·cases hu
theorem RE.drop_ {α:Type} {enc:α→List Value} {size:Nat} (he:∀x,(enc x).length = size) {w:World} {g off n c k:Nat} {l:List α} (h:RE enc size w (.slice (some ⟨g,off,none⟩) n c) l) (hk:k < l.length):RE enc size w (.slice (some ⟨g,off+k * size,none⟩) (l.length - k) (c - k)) (l.drop k):=by
 obtain ⟨h1,A',c',e,hc,h2⟩:=h
 injection e with e1 e2 e3
 subst e1;subst e2;subst e3
 unfold RE
 rw [List.length_drop]
 refine ⟨?_,_,_,rfl,by omega,fun hp=>⟨_,_,rfl,fun j u hu=>?_⟩⟩
 ·rw [ef he,List.length_drop]
 ·obtain ⟨g',off',e2,h3⟩:=h2 (by omega)
  injection e2 with e2
  injection e2 with e4 e5
  subst e4;subst e5
  rw [← fP he,List.getElem?_drop] at hu
  rw [Nat.add_assoc]
  exact h3 _ _ hu
theorem SO_none (w:World):SE obl 2 92 (w.alloc (.cells #[] 92)) (.slice (some ⟨w.heap.size,0,none⟩) 0 0) []:=nx w 92 2
theorem aG {w:World} {m:Nat} {M:Mo} {sp:Nat→Option Nat} {vo ve:Value} {L:List Ob} {E:List Nat} {gb gm:Nat→Nat} {gs:Nat→Sq} (h:WIn w m M sp vo ve L E gb gm gs) (jF:∀k,FW' M m vo ve L gb gm k→k < w.heap.size)
  {x:Cl} (hx:x.Ok) (hL:L.length≤500000) (hk:x.k = 11) (v:Value) (hv:v.oneCell' = true) (hvb:RB w v x.l) :
  Calls Tryz.prog 76 #[.pointer (some ⟨m,0,none⟩),.agg (clc x v)] w fun e w'=>DoR w w' m M vo ve L E gb gm (fh M x) e:=by
 obtain ⟨W1,jG⟩:∃W1,W1 = w.alloc (.cells (clc x v) 47):=⟨_,rfl⟩
 obtain ⟨W2,jB⟩:∃W2,W2 = W1.alloc (.cells (rsc zRs zV) 40):=⟨_,rfl⟩
 have c01:Chg [] w W1:=by rw [jG];exact (Chg.refl [] w).alloc _
 have c12:Chg [] W1 W2:=by rw [jB];exact (Chg.refl [] W1).alloc _
 have kG:KB W2 w.heap.size x v:=KB.stay (by rw [jG];exact Blk.new w _ _) c12
 have kJ:XB W2 W1.heap.size zRs zV:=by rw [jB];exact Blk.new W1 _ _
 have e1:W1.heap.size = w.heap.size+1:=by rw [jG];exact af _ _
 have e2:W2.heap.size = w.heap.size+2:=by rw [jB,af];omega
 obtain ⟨b3,jS⟩:∃y,y = w.heap.size:=⟨_,rfl⟩
 obtain ⟨b4,kQ⟩:∃y,y = W1.heap.size:=⟨_,rfl⟩
 rw [← jS] at kG
 rw [← kQ] at kJ
 have HI:=ah (fun W (hc:Chg [] W2 W)=>h.stay ((c01.stay c12).stay hc))
 have kY:=ah (fun W (hc:Chg [] W2 W)=>(KB.stay kG hc:KB W b3 x v))
 have kD:=ah (fun W (hc:Chg [] W2 W)=>(XB.stay kJ hc:XB W b4 zRs zV))
 have jJ:=ah (c01.stay c12)
 have kW:=ah jG
 have jP:=ah jB
 have HB:=ah (show b3 = w.heap.size∧b4 = w.heap.size+1∧W2.heap.size = w.heap.size+2 by omega)
 have jY:=ah jS
 have jW:=ah kQ
 have jK:=ah jF
 have HK:=ah hk
 have pR:=ah hx
 have HL:=ah hL
 have HV:=ah (fun W (hc:Chg [] W2 W)=>RE.stay hvb ((c01.stay c12).stay hc))
 have EV0:=ah br_0
 have EVE:=ah (fun e=>br_e e)
 skip
 obtain ⟨RR,kB⟩:∃R,R = fh M x:=⟨_,rfl⟩
 rw [← kB]
 have jC:=ah kB
 clear h jF hx hL c01 c12 kG kJ e1 e2 jS kQ jG jB kB hvb hk
 go_enter Tryz.func76,Tryz.ntmps76
 go_upto_region 1 with (first|refine ax rfl _ rfl rfl ?_;try rw [← kW.out]|refine bn rfl rfl ?_;try rw [← jP.out])
 try rw [← jY.out,← jW.out]
 obtain ⟨r0,-,-,-,-,r5,r6,-,-,-,r10,r11,rl,-⟩:=KB.cells (kY.out W2 (Chg.refl _ _))
 rw [HK.out] at r0
 have ml:=Blk.lt (HI.out W2 (Chg.refl _ _)).blk
 go_wp2_with fail
 refine (vt (HI.out W2 (Chg.refl _ _)) x.h).mono ?_
 rintro e W4 ⟨⟨rfl,jZ⟩ | ⟨k,rfl,hkl,hh⟩,rfl⟩
 ·obtain rfl:RR = (aq 120,none):=by rw [jC.out];unfold fh;rw [(HI.out W2 (Chg.refl _ _)).ob.none_ jZ]
  clear jZ
  go_wp2_with (first|refine bx rfl _ rfl (EVE.out 120) ?_ ?_;(focus (simp [Act.eval];done))|refine au (b:=b4) (x:=zRs) (v:=zV) (y:=aq 120) (u:=zV) rfl _ _ rfl rfl rfl rfl (kD.out W2 (Chg.refl _ _)) ?_;intro W6 h6 iZ)
  refine bodyPost_ret (v:=.agg (rsc (aq 120) zV)) (results_cell_row (p:=4) (ty:=40) rfl _ _ b4 40 _ (0,0) _ rfl h6 Tryz.underlying40 rfl ct) rfl ?_
  refine ⟨none,0,0,rfl,RE.nil ucl 1 _ none 0,fun _ hk=>(bw hk).elim,?_,sp,vo,L,gb,gm,gs,(((HI.out W2 (Chg.refl [] W2))).new (B:=w.heap.size) jK.out iZ (fun y hy=>by obtain rfl:=aa hy;have:=HB.out;omega)),Nat.le_refl _,fun y hy=>.inl ⟨hy,?_⟩⟩
  ·exact CP.of ((((jJ.out.stay (Chg.refl [] W2)).up [b4]).and_ iZ)) (fun y hy=>.inr (by obtain rfl:=aa hy;have:=HB.out;omega))
  ·have h1:=jK.out y hy;have h2:=(jJ.out.stay (Chg.refl [] W2)).size;have h3:=iZ.size;omega
 obtain ⟨B,hB⟩:∃B,B = L[k].l:=⟨_,rfl⟩
 obtain ⟨u,hu⟩:∃u,u = L[k].v:=⟨_,rfl⟩
 obtain ⟨zh,vW⟩:∃zh:Nat,zh = L[k].h:=⟨_,rfl⟩
 have qJ:M.ob (x.h:Int) = some B:=by have:=(HI.out W2 (Chg.refl _ _)).ob.at_ hkl;rw [hh] at this;rw [this,hB]
 have AJ:=ah qJ
 have lN:=ah (show RR = (if x.k = 11 then (aq 0,some { M with ob:=upd M.ob x.h none }) else if (B.length:Int) < x.a+max x.s x.l.length then (aq 2,none) else if x.k = 12 then (⟨0,0,(B.drop x.a.toNat).take x.s.toNat⟩,none) else (aq 0,some { M with ob:=upd M.ob x.h (some (cj B x.a.toNat x.l)) })) by rw [jC.out];unfold fh;rw [qJ])
 have sJ:=(HI.out W2 (Chg.refl _ _)).ob.bt L[k] (List.getElem_mem hkl)
 rw [← hB,← hu] at sJ
 obtain ⟨lW,wH,yW⟩:=sJ
 obtain ⟨Au,cu,rfl⟩:∃A c,u = .slice A B.length c:=SE.form lW
 have qP:=ah (fun W (hc:Chg [] W2 W)=>SE.stay lW hc)
 have vY:=ah wH
 have pU:=(HI.out W2 (Chg.refl _ _)).ob.sl.re
 have q:=WB.voc (HI.out W2 (Chg.refl _ _)).blk
 have xU:=ah (SE.max (HI.out W2 (Chg.refl _ _)).ob.sl)
 obtain ⟨A,c,sP⟩:=SE.form (HI.out W2 (Chg.refl _ _)).ob.sl
 rw [sP] at pU q
 obtain ⟨g,off,rfl⟩:=RE.addr pU (show 0 < L.length by omega)
 have sM:=eB pU hkl
 rw [← hu,← vW] at sM
 have sI:=ah sP
 have Ej:=ah pU
 have AB:=ah (And.intro hB (And.intro hu (And.intro vW hh)))
 have i0:(0:Int)≤(k:Int):=by omega
 have i1:(k:Int) < (L.length:Int):=by omega
 have n0:decide ((k:Int) < 0) = false:=ac (by omega)
 have lZ:=ah hkl
 clear hB hu vW hh qJ lW wH yW sP pU
 go_upto_region 5 with (first|refine gc (ty:=92) (ad:=⟨g,off+k * 2,none⟩) (v:=.agg #[.int .u64 zh,.slice Au B.length cu]) rfl _ rfl rfl sM ?_|refine ma rfl rfl ?_;intro W3 h3 jD;have H3:=ah h3;have jE:=ah jD;clear h3 jD|refine mc (b:=W2.heap.size) (h':=zh) (u:=.slice Au B.length cu) rfl _ _ rfl rfl rfl rfl H3.out ?_;intro W4 h4 jT;have H4:=ah h4;have jR:=ah (show Chg [] W2 W4 from jE.out.trans jT (fun y hy=>.inr (by obtain rfl:=aa hy;exact Nat.le_refl _)));clear h4 jT)
 clear sM r0 r5 r6 r10 r11 rl q ml H3
 obtain ⟨r0,-,-,-,-,r5,r6,-,-,-,-,r11,rl,-⟩:=KB.cells (kY.out W4 jR.out)
 rw [HK.out] at r0
 have q:=WB.voc (HI.out W4 jR.out).blk
 rw [sI.out] at q
 have ml:=Blk.lt (HI.out W4 jR.out).blk
 have o1:W4.cell? ⟨W2.heap.size,1,none⟩ = some (.slice Au B.length cu):=by simpa using Blk.cell H4.out 1
 have ol:=Blk.lt H4.out
 obtain rfl:RR = (aq 0,some { M with ob:=upd M.ob x.h none }):=by rw [lN.out,if_pos HK.out]
 go_upto_region 9 with (fail)
 clear r0 r5 r6 r11 rl q ml o1 ol
 refine rgt [0,6,0,0,0,5,0,0,6,0,0,0,5,0,0,0,6,0,0,3] [none,none,none,none,none,none,none,none,none,none,none,none,none,none,none,none,none,none,none,none] (fun W=>Chg [] W2 W) ?_
 have hS:Chg [] W2 W4.drew:=jR.out.drew
 generalize W4.drew = W5 at hS ⊢
 have ml:=Blk.lt (HI.out W5 hS).blk
 have Bz:=ah (fun W (h:Chg [] W2 W)=>(fz Tryz.underlying77 (by rw [← sI.out];exact WB.voc (HI.out W h).blk):(loadVar 77 ⟨m,103,none⟩).run Tryz.prog W = .ok (.slice (some ⟨g,off,none⟩) L.length c) W))
 have HRE:=ah (fun W (h:Chg [] W2 W)=>(sI.out ▸ (HI.out W h).ob.sl.re:RE obl 2 W (.slice (some ⟨g,off,none⟩) L.length c) L))
 have nY:=ah (OIn.one (HI.out W2 (Chg.refl _ _)).ob)
 have rU:L.length≤c:=by obtain ⟨-,A9,c9,e9,h9,-⟩:=Ej.out;injection e9 with _ _ e9;omega
 have EX:=ah rU
 have kc:k≤c:=by omega
 go_wp2_with (first|refine al 77 _ rfl rfl Bz.out hS ?_|refine av fun K I=>?_|refine ai fun K I=>?_;go_simp;refine I _ _ ?_;clear I K|refine ao fun K I=>?_;go_simp|refine aj ?_)
 (refine aw hS fun K I=>?_)
 go_simp
 obtain ⟨W6,wZ⟩:∃W,W = W5.alloc (.cells #[] 92):=⟨_,rfl⟩
 have iZ:Chg [] W5 W6:=by rw [wZ];exact (Chg.refl [] _).alloc _
 have DA:SE obl 2 92 W6 (.slice (some ⟨W5.heap.size,0,none⟩) 0 0) []:=by rw [wZ];exact SO_none W5
 try rw [← wZ]
 obtain ⟨b9,qR⟩:∃y,y = W5.heap.size:=⟨_,rfl⟩
 rw [← qR] at DA ⊢
 have AA:=ah (show W2.heap.size≤b9 by have:=hS.size;omega)
 have AQ:=ah DA
 replace hS:Chg [] W2 W6:=hS.stay iZ
 refine I _ _ hS ?_
 clear I K wZ qR iZ DA ml
 have ml:=Blk.lt (HI.out W6 hS).blk
 go_wp2_with (first|refine al 77 _ rfl rfl Bz.out hS ?_|refine av fun K I=>?_|refine ai fun K I=>?_;go_simp;refine I _ _ ?_;clear I K|refine ao fun K I=>?_;go_simp|refine aj ?_)
 (refine aw hS fun K I=>?_)
 refine kr _ _ rfl (.slice (some ⟨b9,0,none⟩) 0 0) (.slice (some ⟨g,off,none⟩) k c) rfl rfl (l:=[]) (m:=L.take k) AQ.out (RE.take_ mq (HRE.out W6 hS) (Nat.le_of_lt lZ.out)) (fun o ho=>nY.out o (List.mem_of_mem_take ho)) (by have:=HL.out;rw [List.length_take];simp;omega) ?_
 have zW:W2.heap.size≤W6.heap.size:=hS.size
 intro A7 n7 c7 W7 Gt DB jI BL
 replace hS:Chg [] W2 W7:=hS.trans jI (fun y hy=>.inr (by rw [gh] at hy;obtain rfl:=aa hy;exact AA.out))
 refine I _ _ hS ?_
 rw [List.nil_append] at Gt DB
 have Ei:=ah DB
 have zZ:=ah (show ∀i∈own (.slice A7 n7 c7),W2.heap.size≤i from fun i hi=>by
  rcases BL i hi with h1 | h1
  ·rw [gh] at h1;obtain rfl:=aa h1;exact AA.out
  ·exact ag zW h1)
 clear I K zW DB jI BL AQ Gt ml
 have ml:=Blk.lt (HI.out W7 hS).blk
 obtain ⟨k1,rX⟩:∃k1,k1 = k+1:=⟨_,rfl⟩
 have DW:=ah rX
 have Bq:wrap64 ((k:Int)+1) = (k1:Int):=by have:=HL.out;unfold wrap64;omega
 have vU:IntKind.i64.wrap ((k:Int)+1) = (k1:Int):=by have:=HL.out;rw [IntKind.wrap_i64];omega
 have kl1:k1≤L.length:=by omega
 have kc1:k1≤c:=by omega
 have kl1':(k1:Int)≤(L.length:Int):=by omega
 have kc1':(k1:Int)≤(c:Int):=by omega
 clear rX
 by_cases hck:c = k1
 ·have uA:=ah (show RE obl 2 W7 (.slice (some ⟨g,off,none⟩) 0 0) (L.drop k1) from by
   rw [List.drop_eq_nil_of_le (by omega)]
   exact RE.nil ..)
  subst hck
  go_wp2_with (first|refine al 77 _ rfl rfl Bz.out hS ?_|refine av fun K I=>?_|refine ai fun K I=>?_;go_simp;refine I _ _ ?_;clear I K|refine ao fun K I=>?_;go_simp|refine aj ?_)
  (refine aw hS fun K I=>?_)
  refine kr _ _ rfl (.slice A7 n7 c7) (.slice (some ⟨g,off,none⟩) 0 0) rfl rfl Ei.out uA.out (fun o ho=>nY.out o (List.mem_of_mem_drop ho)) (by have:=HL.out;rw [List.length_take,List.length_drop];omega) ?_
  intro A8 n8 c8 W8 wO GC mP wM
  have wG:Chg [] W2 W8:=hS.trans mP (fun y hy=>.inr (zZ.out y hy))
  refine I _ _ wG ?_
  have CD:=ah GC
  have AF:=ah (show ∀i∈own (.slice A8 n8 c8),W2.heap.size≤i from fun i hi=>by
   rcases wM i hi with h1 | h1
   ·exact zZ.out i h1
   ·exact ag hS.size h1)
  have q8:=WB.voc (HI.out W8 wG).blk
  have f8:=Blk.frozen (HI.out W8 wG).blk 103
  have ml8:=Blk.lt (HI.out W8 wG).blk
  have lL:=ah wG
  clear I K GC mP wM wO wG hS ml uA Ei zZ
  go_upto_region 10 with (first|refine av fun K I=>?_|refine ai fun K I=>?_;go_simp;refine I _ _ ?_;clear I K|refine ao fun K I=>?_;go_simp|refine aj ?_)
  have qR:WB (W8.setCell ⟨m,103,none⟩ (.slice A8 n8 c8)) m M.c sp (.slice A8 n8 c8) ve:=WB.set_vo (HI.out W8 lL.out).blk _
  have kE:Chg [m] W8 (W8.setCell ⟨m,103,none⟩ (.slice A8 n8 c8)):=(Chg.refl [m] W8).setCell (p:=⟨m,103,none⟩) (.inl (by simp)) _
  clear q8 f8 ml8
  generalize W8.setCell ⟨m,103,none⟩ (.slice A8 n8 c8) = W9 at qR kE ⊢
  have uX:=CD.out
  rw [DW.out] at uX
  have rZ:=(HI.out W8 lL.out).ob.del lZ.out uX (Chg.refl _ _)
  have uT:=rZ.chg kE (fun y hy=>by simp;exact fun e=>SE.not_blk rZ.sl (HI.out W8 lL.out).blk (by decide) (e ▸ hy)) (fun o ho y hy=>by simp;exact fun e=>SE.not_blk (rZ.bt o ho).1 (HI.out W8 lL.out).blk (by decide) (e ▸ hy))
  rw [AB.out.2.2.2] at uT
  have HW9:=ah ((HI.out W8 lL.out).other kE (HI.out W8 lL.out).blk (by decide) (by decide) uT qR)
  have mB:=ah kE
  clear qR kE rZ uT uX
  go_wp2_with (first|refine bx rfl _ rfl EV0.out ?_ ?_;(focus (simp [Act.eval];done))|refine au (b:=b4) (x:=zRs) (v:=zV) (y:=aq 0) (u:=zV) rfl _ _ rfl rfl rfl rfl (Blk.chg (kD.out W8 lL.out) mB.out (by have:=HB.out;have:=jK.out m (.inl rfl);simp;omega)) ?_;intro W10 h6 iZ)
  refine bodyPost_ret (v:=.agg (rsc (aq 0) zV)) (results_cell_row (p:=4) (ty:=40) rfl _ _ b4 40 _ (0,0) _ rfl h6 Tryz.underlying40 rfl ct) rfl ?_
  have hz8:=lL.out.size
  have EJ:=mB.out.size
  have hz6:=iZ.size
  have BZ:=HB.out.2.2
  have Dj:Chg [m] w W9:=((jJ.out.stay lL.out).up [m]).and_ mB.out
  have rY:∀y,FW' M m vo ve L gb gm y→y≠b4:=fun y hy e=>by have h1:=jK.out y hy;have h2:=HB.out;omega
  refine ⟨none,0,0,rfl,RE.nil ucl 1 _ none 0,fun _ hk=>(bw hk).elim,?_,sp,.slice A8 n8 c8,L.take k ++ L.drop (k+1),gb,gm,gs,?_,?_,fun y hy=>?_⟩
  ·exact (CP.of Dj (fun y hy=>.inl (by obtain rfl:=aa hy;exact .inl rfl)):CP (FW' M m vo ve L gb gm) w W9).trans (CP.of (F:=fun k=>k = b4) iZ (fun y hy=>.inl (aa hy))) (fun y hy=>.inr (by have:=HB.out;omega))
  ·have hw:=HW9.out.cp (CP.of (F:=fun k=>k = b4) iZ (fun y hy=>.inl (aa hy))) fun y hy e=>?_
   ·exact hw
   ·subst e
    rcases hy with h | h | h | ⟨o,ho,h⟩ | ⟨i,q,hi,h⟩
    ·exact rY _ (.inl h) rfl
    ·have h1:=AF.out _ h;have h2:=HB.out;omega
    ·exact rY _ (.inr (.inr (.inl h))) rfl
    ·refine rY _ (.inr (.inr (.inr (.inl ⟨o,?_,h⟩)))) rfl
     rcases List.mem_append.1 ho with ho | ho
     ·exact List.mem_of_mem_take ho
     ·exact List.mem_of_mem_drop ho
    ·exact rY _ (.inr (.inr (.inr (.inr ⟨i,q,hi,h⟩)))) rfl
  ·rw [List.length_append,List.length_take,List.length_drop];omega
  ·have lG:∀y,FW' M m vo ve L gb gm y→y < W10.heap.size:=fun y hy=>by have:=jK.out y hy;omega
   rcases hy with h | h | h | ⟨o,ho,h⟩ | ⟨i,q,hi,h⟩
   ·exact .inl ⟨.inl h,lG _ (.inl h)⟩
   ·have h1:=AF.out _ h
    have h2:=SE.own_lt CD.out _ h
    exact .inr ⟨by omega,by omega⟩
   ·exact .inl ⟨.inr (.inr (.inl h)),lG _ (.inr (.inr (.inl h)))⟩
   ·have h1:FW' M m vo ve L gb gm y:=.inr (.inr (.inr (.inl ⟨o,(by
     rcases List.mem_append.1 ho with ho | ho
     ·exact List.mem_of_mem_take ho
     ·exact List.mem_of_mem_drop ho),h⟩)))
    exact .inl ⟨h1,lG _ h1⟩
   ·have h1:FW' M m vo ve L gb gm y:=.inr (.inr (.inr (.inr ⟨i,q,hi,h⟩)))
    exact .inl ⟨h1,lG _ h1⟩
 ·have nck:¬ k1 = c:=fun e=>hck e.symm
  have uA:=ah (show RE obl 2 W7 (.slice (some ⟨g,off+k1 * 2,none⟩) (L.length - k1) (c - k1)) (L.drop k1) from by
   by_cases e:k1 < L.length
   ·exact RE.drop_ mq (HRE.out W7 hS) e
   ·have e2:L.length - k1 = 0:=by omega
    rw [e2,List.drop_eq_nil_of_le (by omega)]
    exact RE.nil ..)
  go_wp2_with (first|refine al 77 _ rfl rfl Bz.out hS ?_|refine av fun K I=>?_|refine ai fun K I=>?_;go_simp;refine I _ _ ?_;clear I K|refine ao fun K I=>?_;go_simp|refine aj ?_)
  (refine aw hS fun K I=>?_)
  refine kr _ _ rfl (.slice A7 n7 c7) (.slice (some ⟨g,off+k1 * 2,none⟩) (L.length - k1) (c - k1)) rfl rfl Ei.out uA.out (fun o ho=>nY.out o (List.mem_of_mem_drop ho)) (by have:=HL.out;rw [List.length_take,List.length_drop];omega) ?_
  intro A8 n8 c8 W8 wO GC mP wM
  have wG:Chg [] W2 W8:=hS.trans mP (fun y hy=>.inr (zZ.out y hy))
  refine I _ _ wG ?_
  have CD:=ah GC
  have AF:=ah (show ∀i∈own (.slice A8 n8 c8),W2.heap.size≤i from fun i hi=>by
   rcases wM i hi with h1 | h1
   ·exact zZ.out i h1
   ·exact ag hS.size h1)
  have q8:=WB.voc (HI.out W8 wG).blk
  have f8:=Blk.frozen (HI.out W8 wG).blk 103
  have ml8:=Blk.lt (HI.out W8 wG).blk
  have lL:=ah wG
  clear I K GC mP wM wO wG hS ml uA Ei zZ
  go_upto_region 10 with (first|refine av fun K I=>?_|refine ai fun K I=>?_;go_simp;refine I _ _ ?_;clear I K|refine ao fun K I=>?_;go_simp|refine aj ?_)
  have qR:WB (W8.setCell ⟨m,103,none⟩ (.slice A8 n8 c8)) m M.c sp (.slice A8 n8 c8) ve:=WB.set_vo (HI.out W8 lL.out).blk _
  have kE:Chg [m] W8 (W8.setCell ⟨m,103,none⟩ (.slice A8 n8 c8)):=(Chg.refl [m] W8).setCell (p:=⟨m,103,none⟩) (.inl (by simp)) _
  clear q8 f8 ml8
  generalize W8.setCell ⟨m,103,none⟩ (.slice A8 n8 c8) = W9 at qR kE ⊢
  have uX:=CD.out
  rw [DW.out] at uX
  have rZ:=(HI.out W8 lL.out).ob.del lZ.out uX (Chg.refl _ _)
  have uT:=rZ.chg kE (fun y hy=>by simp;exact fun e=>SE.not_blk rZ.sl (HI.out W8 lL.out).blk (by decide) (e ▸ hy)) (fun o ho y hy=>by simp;exact fun e=>SE.not_blk (rZ.bt o ho).1 (HI.out W8 lL.out).blk (by decide) (e ▸ hy))
  rw [AB.out.2.2.2] at uT
  have HW9:=ah ((HI.out W8 lL.out).other kE (HI.out W8 lL.out).blk (by decide) (by decide) uT qR)
  have mB:=ah kE
  clear qR kE rZ uT uX
  go_wp2_with (first|refine bx rfl _ rfl EV0.out ?_ ?_;(focus (simp [Act.eval];done))|refine au (b:=b4) (x:=zRs) (v:=zV) (y:=aq 0) (u:=zV) rfl _ _ rfl rfl rfl rfl (Blk.chg (kD.out W8 lL.out) mB.out (by have:=HB.out;have:=jK.out m (.inl rfl);simp;omega)) ?_;intro W10 h6 iZ)
  refine bodyPost_ret (v:=.agg (rsc (aq 0) zV)) (results_cell_row (p:=4) (ty:=40) rfl _ _ b4 40 _ (0,0) _ rfl h6 Tryz.underlying40 rfl ct) rfl ?_
  have hz8:=lL.out.size
  have EJ:=mB.out.size
  have hz6:=iZ.size
  have BZ:=HB.out.2.2
  have Dj:Chg [m] w W9:=((jJ.out.stay lL.out).up [m]).and_ mB.out
  have rY:∀y,FW' M m vo ve L gb gm y→y≠b4:=fun y hy e=>by have h1:=jK.out y hy;have h2:=HB.out;omega
  refine ⟨none,0,0,rfl,RE.nil ucl 1 _ none 0,fun _ hk=>(bw hk).elim,?_,sp,.slice A8 n8 c8,L.take k ++ L.drop (k+1),gb,gm,gs,?_,?_,fun y hy=>?_⟩
  ·exact (CP.of Dj (fun y hy=>.inl (by obtain rfl:=aa hy;exact .inl rfl)):CP (FW' M m vo ve L gb gm) w W9).trans (CP.of (F:=fun k=>k = b4) iZ (fun y hy=>.inl (aa hy))) (fun y hy=>.inr (by have:=HB.out;omega))
  ·have hw:=HW9.out.cp (CP.of (F:=fun k=>k = b4) iZ (fun y hy=>.inl (aa hy))) fun y hy e=>?_
   ·exact hw
   ·subst e
    rcases hy with h | h | h | ⟨o,ho,h⟩ | ⟨i,q,hi,h⟩
    ·exact rY _ (.inl h) rfl
    ·have h1:=AF.out _ h;have h2:=HB.out;omega
    ·exact rY _ (.inr (.inr (.inl h))) rfl
    ·refine rY _ (.inr (.inr (.inr (.inl ⟨o,?_,h⟩)))) rfl
     rcases List.mem_append.1 ho with ho | ho
     ·exact List.mem_of_mem_take ho
     ·exact List.mem_of_mem_drop ho
    ·exact rY _ (.inr (.inr (.inr (.inr ⟨i,q,hi,h⟩)))) rfl
  ·rw [List.length_append,List.length_take,List.length_drop];omega
  ·have lG:∀y,FW' M m vo ve L gb gm y→y < W10.heap.size:=fun y hy=>by have:=jK.out y hy;omega
   rcases hy with h | h | h | ⟨o,ho,h⟩ | ⟨i,q,hi,h⟩
   ·exact .inl ⟨.inl h,lG _ (.inl h)⟩
   ·have h1:=AF.out _ h
    have h2:=SE.own_lt CD.out _ h
    exact .inr ⟨by omega,by omega⟩
   ·exact .inl ⟨.inr (.inr (.inl h)),lG _ (.inr (.inr (.inl h)))⟩
   ·have h1:FW' M m vo ve L gb gm y:=.inr (.inr (.inr (.inl ⟨o,(by
     rcases List.mem_append.1 ho with ho | ho
     ·exact List.mem_of_mem_take ho
     ·exact List.mem_of_mem_drop ho),h⟩)))
    exact .inl ⟨h1,lG _ h1⟩
   ·have h1:FW' M m vo ve L gb gm y:=.inr (.inr (.inr (.inr ⟨i,q,hi,h⟩)))
    exact .inl ⟨h1,lG _ h1⟩
theorem aH {w:World} {m:Nat} {M:Mo} {sp:Nat→Option Nat} {vo ve:Value} {L:List Ob} {E:List Nat} {gb gm:Nat→Nat} {gs:Nat→Sq} (h:WIn w m M sp vo ve L E gb gm gs) (jF:∀k,FW' M m vo ve L gb gm k→k < w.heap.size)
  {x:Cl} (hx:x.Ok) (hL:L.length≤500000) (hk:x.k = 12) (hw:ci M.c x = false) (v:Value) (hv:v.oneCell' = true) (hvb:RB w v x.l) :
  Calls Tryz.prog 76 #[.pointer (some ⟨m,0,none⟩),.agg (clc x v)] w fun e w'=>DoR w w' m M vo ve L E gb gm (fh M x) e:=by
 obtain ⟨W1,jG⟩:∃W1,W1 = w.alloc (.cells (clc x v) 47):=⟨_,rfl⟩
 obtain ⟨W2,jB⟩:∃W2,W2 = W1.alloc (.cells (rsc zRs zV) 40):=⟨_,rfl⟩
 have c01:Chg [] w W1:=by rw [jG];exact (Chg.refl [] w).alloc _
 have c12:Chg [] W1 W2:=by rw [jB];exact (Chg.refl [] W1).alloc _
 have kG:KB W2 w.heap.size x v:=KB.stay (by rw [jG];exact Blk.new w _ _) c12
 have kJ:XB W2 W1.heap.size zRs zV:=by rw [jB];exact Blk.new W1 _ _
 have e1:W1.heap.size = w.heap.size+1:=by rw [jG];exact af _ _
 have e2:W2.heap.size = w.heap.size+2:=by rw [jB,af];omega
 obtain ⟨b3,jS⟩:∃y,y = w.heap.size:=⟨_,rfl⟩
 obtain ⟨b4,kQ⟩:∃y,y = W1.heap.size:=⟨_,rfl⟩
 rw [← jS] at kG
 rw [← kQ] at kJ
 have HI:=ah (fun W (hc:Chg [] W2 W)=>h.stay ((c01.stay c12).stay hc))
 have kY:=ah (fun W (hc:Chg [] W2 W)=>(KB.stay kG hc:KB W b3 x v))
 have kD:=ah (fun W (hc:Chg [] W2 W)=>(XB.stay kJ hc:XB W b4 zRs zV))
 have jJ:=ah (c01.stay c12)
 have kW:=ah jG
 have jP:=ah jB
 have HB:=ah (show b3 = w.heap.size∧b4 = w.heap.size+1∧W2.heap.size = w.heap.size+2 by omega)
 have jY:=ah jS
 have jW:=ah kQ
 have jK:=ah jF
 have HK:=ah hk
 have pR:=ah hx
 have HL:=ah hL
 have HV:=ah (fun W (hc:Chg [] W2 W)=>RE.stay hvb ((c01.stay c12).stay hc))
 have EV0:=ah br_0
 have EVE:=ah (fun e=>br_e e)
 have mL:=ah (fZ hw hk)
 obtain ⟨RR,kB⟩:∃R,R = fh M x:=⟨_,rfl⟩
 rw [← kB]
 have jC:=ah kB
 clear h jF hx hL c01 c12 kG kJ e1 e2 jS kQ jG jB kB hvb hk hw
 go_enter Tryz.func76,Tryz.ntmps76
 go_upto_region 1 with (first|refine ax rfl _ rfl rfl ?_;try rw [← kW.out]|refine bn rfl rfl ?_;try rw [← jP.out])
 try rw [← jY.out,← jW.out]
 obtain ⟨r0,-,-,-,-,r5,r6,-,-,-,r10,r11,rl,-⟩:=KB.cells (kY.out W2 (Chg.refl _ _))
 rw [HK.out] at r0
 have ml:=Blk.lt (HI.out W2 (Chg.refl _ _)).blk
 go_wp2_with fail
 refine (vt (HI.out W2 (Chg.refl _ _)) x.h).mono ?_
 rintro e W4 ⟨⟨rfl,jZ⟩ | ⟨k,rfl,hkl,hh⟩,rfl⟩
 ·obtain rfl:RR = (aq 120,none):=by rw [jC.out];unfold fh;rw [(HI.out W2 (Chg.refl _ _)).ob.none_ jZ]
  clear jZ
  go_wp2_with (first|refine bx rfl _ rfl (EVE.out 120) ?_ ?_;(focus (simp [Act.eval];done))|refine au (b:=b4) (x:=zRs) (v:=zV) (y:=aq 120) (u:=zV) rfl _ _ rfl rfl rfl rfl (kD.out W2 (Chg.refl _ _)) ?_;intro W6 h6 iZ)
  refine bodyPost_ret (v:=.agg (rsc (aq 120) zV)) (results_cell_row (p:=4) (ty:=40) rfl _ _ b4 40 _ (0,0) _ rfl h6 Tryz.underlying40 rfl ct) rfl ?_
  refine ⟨none,0,0,rfl,RE.nil ucl 1 _ none 0,fun _ hk=>(bw hk).elim,?_,sp,vo,L,gb,gm,gs,(((HI.out W2 (Chg.refl [] W2))).new (B:=w.heap.size) jK.out iZ (fun y hy=>by obtain rfl:=aa hy;have:=HB.out;omega)),Nat.le_refl _,fun y hy=>.inl ⟨hy,?_⟩⟩
  ·exact CP.of ((((jJ.out.stay (Chg.refl [] W2)).up [b4]).and_ iZ)) (fun y hy=>.inr (by obtain rfl:=aa hy;have:=HB.out;omega))
  ·have h1:=jK.out y hy;have h2:=(jJ.out.stay (Chg.refl [] W2)).size;have h3:=iZ.size;omega
 obtain ⟨B,hB⟩:∃B,B = L[k].l:=⟨_,rfl⟩
 obtain ⟨u,hu⟩:∃u,u = L[k].v:=⟨_,rfl⟩
 obtain ⟨zh,vW⟩:∃zh:Nat,zh = L[k].h:=⟨_,rfl⟩
 have qJ:M.ob (x.h:Int) = some B:=by have:=(HI.out W2 (Chg.refl _ _)).ob.at_ hkl;rw [hh] at this;rw [this,hB]
 have AJ:=ah qJ
 have lN:=ah (show RR = (if x.k = 11 then (aq 0,some { M with ob:=upd M.ob x.h none }) else if (B.length:Int) < x.a+max x.s x.l.length then (aq 2,none) else if x.k = 12 then (⟨0,0,(B.drop x.a.toNat).take x.s.toNat⟩,none) else (aq 0,some { M with ob:=upd M.ob x.h (some (cj B x.a.toNat x.l)) })) by rw [jC.out];unfold fh;rw [qJ])
 have sJ:=(HI.out W2 (Chg.refl _ _)).ob.bt L[k] (List.getElem_mem hkl)
 rw [← hB,← hu] at sJ
 obtain ⟨lW,wH,yW⟩:=sJ
 obtain ⟨Au,cu,rfl⟩:∃A c,u = .slice A B.length c:=SE.form lW
 have qP:=ah (fun W (hc:Chg [] W2 W)=>SE.stay lW hc)
 have vY:=ah wH
 have pU:=(HI.out W2 (Chg.refl _ _)).ob.sl.re
 have q:=WB.voc (HI.out W2 (Chg.refl _ _)).blk
 have xU:=ah (SE.max (HI.out W2 (Chg.refl _ _)).ob.sl)
 obtain ⟨A,c,sP⟩:=SE.form (HI.out W2 (Chg.refl _ _)).ob.sl
 rw [sP] at pU q
 obtain ⟨g,off,rfl⟩:=RE.addr pU (show 0 < L.length by omega)
 have sM:=eB pU hkl
 rw [← hu,← vW] at sM
 have sI:=ah sP
 have Ej:=ah pU
 have AB:=ah (And.intro hB (And.intro hu (And.intro vW hh)))
 have i0:(0:Int)≤(k:Int):=by omega
 have i1:(k:Int) < (L.length:Int):=by omega
 have n0:decide ((k:Int) < 0) = false:=ac (by omega)
 have lZ:=ah hkl
 clear hB hu vW hh qJ lW wH yW sP pU
 go_upto_region 5 with (first|refine gc (ty:=92) (ad:=⟨g,off+k * 2,none⟩) (v:=.agg #[.int .u64 zh,.slice Au B.length cu]) rfl _ rfl rfl sM ?_|refine ma rfl rfl ?_;intro W3 h3 jD;have H3:=ah h3;have jE:=ah jD;clear h3 jD|refine mc (b:=W2.heap.size) (h':=zh) (u:=.slice Au B.length cu) rfl _ _ rfl rfl rfl rfl H3.out ?_;intro W4 h4 jT;have H4:=ah h4;have jR:=ah (show Chg [] W2 W4 from jE.out.trans jT (fun y hy=>.inr (by obtain rfl:=aa hy;exact Nat.le_refl _)));clear h4 jT)
 clear sM r0 r5 r6 r10 r11 rl q ml H3
 obtain ⟨r0,-,-,-,-,r5,r6,-,-,-,-,r11,rl,-⟩:=KB.cells (kY.out W4 jR.out)
 rw [HK.out] at r0
 have q:=WB.voc (HI.out W4 jR.out).blk
 rw [sI.out] at q
 have ml:=Blk.lt (HI.out W4 jR.out).blk
 have o1:W4.cell? ⟨W2.heap.size,1,none⟩ = some (.slice Au B.length cu):=by simpa using Blk.cell H4.out 1
 have ol:=Blk.lt H4.out
 obtain ⟨A0,Ai⟩:∃A0:Nat,x.a = A0:=⟨x.a.toNat,by have:=mL.out;omega⟩
 obtain ⟨S0,yL⟩:∃S0:Nat,x.s = S0:=⟨x.s.toNat,by have:=mL.out;omega⟩
 have wS:=ah (And.intro Ai yL)
 have vV:x.l = []:=mL.out.2.2.1
 rw [Ai] at r5
 rw [yL] at r6
 obtain ⟨T0,FK⟩:∃T0,T0 = A0+S0:=⟨_,rfl⟩
 have vH:=ah FK
 have kF:A0≤128∧1≤S0∧S0≤128:=by have:=mL.out;omega
 have qW:=ah kF
 obtain ⟨Bq,vU⟩:=(ru (by omega) (by omega):wrap64 ((A0:Int)+(S0:Int)) = (T0:Int)∧IntKind.i64.wrap ((A0:Int)+(S0:Int)) = (T0:Int))
 have HXL:=ah vV
 clear Ai yL vV FK kF
 go_upto_region 11 with (fail)
 by_cases hbig:B.length < T0
 ·have d1:decide ((B.length:Int) < (T0:Int)) = true:=ae (by omega)
  have d1':decide (B.length < T0) = true:=ae hbig
  have Ci:=ah hbig
  clear hbig
  obtain rfl:RR = (aq 2,none):=by rw [lN.out,if_neg (by rw [HK.out];decide),if_pos (by have h1:=Ci.out;have h2:=wS.out;have h3:=vH.out;rw [HXL.out];simp;omega)]
  go_wp2_with (first|refine bx rfl _ rfl (EVE.out 2) ?_ ?_;(focus (simp [Act.eval];done))|refine au (b:=b4) (x:=zRs) (v:=zV) (y:=aq 2) (u:=zV) rfl _ _ rfl rfl rfl rfl (kD.out W4 jR.out) ?_;intro W6 h6 iZ)
  refine bodyPost_ret (v:=.agg (rsc (aq 2) zV)) (results_cell_row (p:=4) (ty:=40) rfl _ _ b4 40 _ (0,0) _ rfl h6 Tryz.underlying40 rfl ct) rfl ?_
  refine ⟨none,0,0,rfl,RE.nil ucl 1 _ none 0,fun _ hk=>(bw hk).elim,?_,sp,vo,L,gb,gm,gs,(((HI.out W4 (jR.out))).new (B:=w.heap.size) jK.out iZ (fun y hy=>by obtain rfl:=aa hy;have:=HB.out;omega)),Nat.le_refl _,fun y hy=>.inl ⟨hy,?_⟩⟩
  ·exact CP.of ((((jJ.out.stay (jR.out)).up [b4]).and_ iZ)) (fun y hy=>.inr (by obtain rfl:=aa hy;have:=HB.out;omega))
  ·have h1:=jK.out y hy;have h2:=(jJ.out.stay (jR.out)).size;have h3:=iZ.size;omega
 ·have d1:decide ((B.length:Int) < (T0:Int)) = false:=ac (by omega)
  have d1':decide (B.length < T0) = false:=ac hbig
  have lW:=qP.out W4 jR.out
  obtain ⟨gu,offu,rfl⟩:=SE.addr lW (show 0 < B.length by have h1:=qW.out;have h2:=vH.out;omega)
  have Al:B.length≤cu:=by obtain ⟨-,A9,c9,e9,h9,-⟩:=lW.re;injection e9 with _ _ e9;omega
  have nck:¬ cu = A0:=by have h1:=qW.out;have h2:=vH.out;omega
  have nck':¬ A0 = cu:=fun e=>nck e.symm
  have k1:A0≤T0:=by have:=vH.out;omega
  have k2:T0≤cu:=by omega
  have k3:A0≤cu:=by omega
  have k1':(A0:Int)≤(T0:Int):=by omega
  have k2':(T0:Int)≤(cu:Int):=by omega
  have k3':(A0:Int)≤(cu:Int):=by omega
  obtain ⟨LL,hLL⟩:∃LL,LL = (B.drop A0).take S0:=⟨_,rfl⟩
  have jN:LL.length = T0 - A0:=by rw [hLL,List.length_take,List.length_drop];have h1:=qW.out;have h2:=vH.out;omega
  have hll0:LL.length≤128:=by have h1:=qW.out;have h2:=vH.out;omega
  have hrd:RE ucl 1 W4 (.slice (some ⟨gu,offu+A0,none⟩) (T0 - A0) (cu - A0)) LL:=by
   have h1:=RE.drop_ jb lW.re (k:=A0) (by have h1:=qW.out;have h2:=vH.out;omega)
   rw [Nat.mul_one] at h1
   have h2:=RE.take_ jb h1 (k:=S0) (by rw [List.length_drop];have h2:=vH.out;omega)
   rw [hLL,show T0 - A0 = S0 by have h2:=vH.out;omega]
   exact h2
  obtain rfl:RR = (⟨0,0,LL⟩,none):=by
   rw [lN.out,if_neg (by rw [HK.out];decide),if_neg (by have h1:=vH.out;have h2:=wS.out;rw [HXL.out];simp;omega),if_pos HK.out,hLL]
   have h2:=wS.out
   rw [h2.1,h2.2]
   rfl
  have HS0:=ah (zu W4)
  have rE:Chg [] W4 (W4.alloc (.cells #[] 5)):=(Chg.refl [] W4).alloc _
  have uA:=ah (RE.stay hrd rE)
  have tN:=ah rE
  have DZ:=ah (show ([]:List Nat).length+LL.length≤1000000 by simp;omega)
  have kI:=ah jN
  have EVL:=ah (fun A n c=>br_l A n c LL)
  clear hbig lW Al hLL jN hll0 hrd rE
  go_wp2_with (first|at_builtin;refine pp rfl _ _ rfl (.slice (some ⟨W4.heap.size,0,none⟩) 0 0) (.slice (some ⟨gu,offu+A0,none⟩) (T0 - A0) (cu - A0)) rfl rfl (l:=[]) (m:=LL) HS0.out uA.out DZ.out ?_;intro A9 n9 c9 W9 mW nT kE mU;have HS9:=ah nT;have Aa:=ah mU;have mB:=ah (show Chg [] W4 W9 from tN.out.trans kE (fun y hy=>.inr (by rw [gh] at hy;obtain rfl:=aa hy;exact Nat.le_refl _)));clear mW nT kE mU|refine bx rfl _ rfl (EVL.out A9 n9 c9) ?_ ?_;(focus (simp [Act.eval,Act.put];done))|refine au (b:=b4) (x:=zRs) (v:=zV) (y:=⟨0,0,LL⟩) (u:=.slice A9 n9 c9) rfl _ _ rfl rfl rfl rfl (kD.out W9 (jR.out.stay mB.out)) ?_;intro W6 h6 iZ)
  refine bodyPost_ret (v:=.agg (rsc ⟨0,0,LL⟩ (.slice A9 n9 c9))) (results_cell_row (p:=4) (ty:=40) rfl _ _ b4 40 _ (0,0) _ rfl h6 Tryz.underlying40 rfl ct) rfl ?_
  have mU:∀i∈own (.slice A9 n9 c9),W4.heap.size≤i:=fun i hi=>by
   rcases Aa.out i hi with h1 | h1
   ·rw [gh] at h1;obtain rfl:=aa h1;exact Nat.le_refl _
   ·exact ag tN.out.size h1
  have EI:=jR.out.size
  have BZ:=HB.out
  have nT:SB W9 (.slice A9 n9 c9) LL:=HS9.out
  refine ⟨A9,n9,c9,rfl,(SE.chg nT iZ (fun i hi qG=>by obtain rfl:=aa qG;have:=mU _ hi;omega)).re,fun i hi=>by have:=mU i hi;omega,?_,sp,vo,L,gb,gm,gs,(((HI.out W9 (jR.out.stay mB.out))).new (B:=w.heap.size) jK.out iZ (fun y hy=>by obtain rfl:=aa hy;have:=HB.out;omega)),Nat.le_refl _,fun y hy=>.inl ⟨hy,?_⟩⟩
  ·exact CP.of ((((jJ.out.stay (jR.out.stay mB.out)).up [b4]).and_ iZ)) (fun y hy=>.inr (by obtain rfl:=aa hy;have:=HB.out;omega))
  ·have h1:=jK.out y hy;have h2:=(jJ.out.stay (jR.out.stay mB.out)).size;have h3:=iZ.size;omega
theorem aI {w:World} {m:Nat} {M:Mo} {sp:Nat→Option Nat} {vo ve:Value} {L:List Ob} {E:List Nat} {gb gm:Nat→Nat} {gs:Nat→Sq} (h:WIn w m M sp vo ve L E gb gm gs) (jF:∀k,FW' M m vo ve L gb gm k→k < w.heap.size)
  {x:Cl} (hx:x.Ok) (hL:L.length≤500000) (hk:x.k = 13) (hw:ci M.c x = false) (v:Value) (hv:v.oneCell' = true) (hvb:RB w v x.l) (hdj:x.l≠[]→∀k∈own v,¬ FW' M m vo ve L gb gm k) :
  Calls Tryz.prog 76 #[.pointer (some ⟨m,0,none⟩),.agg (clc x v)] w fun e w'=>DoR w w' m M vo ve L E gb gm (fh M x) e:=by
 obtain ⟨W1,jG⟩:∃W1,W1 = w.alloc (.cells (clc x v) 47):=⟨_,rfl⟩
 obtain ⟨W2,jB⟩:∃W2,W2 = W1.alloc (.cells (rsc zRs zV) 40):=⟨_,rfl⟩
 have c01:Chg [] w W1:=by rw [jG];exact (Chg.refl [] w).alloc _
 have c12:Chg [] W1 W2:=by rw [jB];exact (Chg.refl [] W1).alloc _
 have kG:KB W2 w.heap.size x v:=KB.stay (by rw [jG];exact Blk.new w _ _) c12
 have kJ:XB W2 W1.heap.size zRs zV:=by rw [jB];exact Blk.new W1 _ _
 have e1:W1.heap.size = w.heap.size+1:=by rw [jG];exact af _ _
 have e2:W2.heap.size = w.heap.size+2:=by rw [jB,af];omega
 obtain ⟨b3,jS⟩:∃y,y = w.heap.size:=⟨_,rfl⟩
 obtain ⟨b4,kQ⟩:∃y,y = W1.heap.size:=⟨_,rfl⟩
 rw [← jS] at kG
 rw [← kQ] at kJ
 have HI:=ah (fun W (hc:Chg [] W2 W)=>h.stay ((c01.stay c12).stay hc))
 have kY:=ah (fun W (hc:Chg [] W2 W)=>(KB.stay kG hc:KB W b3 x v))
 have kD:=ah (fun W (hc:Chg [] W2 W)=>(XB.stay kJ hc:XB W b4 zRs zV))
 have jJ:=ah (c01.stay c12)
 have kW:=ah jG
 have jP:=ah jB
 have HB:=ah (show b3 = w.heap.size∧b4 = w.heap.size+1∧W2.heap.size = w.heap.size+2 by omega)
 have jY:=ah jS
 have jW:=ah kQ
 have jK:=ah jF
 have HK:=ah hk
 have pR:=ah hx
 have HL:=ah hL
 have HV:=ah (fun W (hc:Chg [] W2 W)=>RE.stay hvb ((c01.stay c12).stay hc))
 have EV0:=ah br_0
 have EVE:=ah (fun e=>br_e e)
 have mL:=ah (aE hw hk);have HDJ:=ah (hdj (fun e=>by have h:=(aE hw hk).2.2.2.1;rw [e] at h;simp at h))
 obtain ⟨RR,kB⟩:∃R,R = fh M x:=⟨_,rfl⟩
 rw [← kB]
 have jC:=ah kB
 clear h jF hx hL c01 c12 kG kJ e1 e2 jS kQ jG jB kB hvb hk hw hdj
 go_enter Tryz.func76,Tryz.ntmps76
 go_upto_region 1 with (first|refine ax rfl _ rfl rfl ?_;try rw [← kW.out]|refine bn rfl rfl ?_;try rw [← jP.out])
 try rw [← jY.out,← jW.out]
 obtain ⟨r0,-,-,-,-,r5,r6,-,-,-,r10,r11,rl,-⟩:=KB.cells (kY.out W2 (Chg.refl _ _))
 rw [HK.out] at r0
 have ml:=Blk.lt (HI.out W2 (Chg.refl _ _)).blk
 go_wp2_with fail
 refine (vt (HI.out W2 (Chg.refl _ _)) x.h).mono ?_
 rintro e W4 ⟨⟨rfl,jZ⟩ | ⟨k,rfl,hkl,hh⟩,rfl⟩
 ·obtain rfl:RR = (aq 120,none):=by rw [jC.out];unfold fh;rw [(HI.out W2 (Chg.refl _ _)).ob.none_ jZ]
  clear jZ
  go_wp2_with (first|refine bx rfl _ rfl (EVE.out 120) ?_ ?_;(focus (simp [Act.eval];done))|refine au (b:=b4) (x:=zRs) (v:=zV) (y:=aq 120) (u:=zV) rfl _ _ rfl rfl rfl rfl (kD.out W2 (Chg.refl _ _)) ?_;intro W6 h6 iZ)
  refine bodyPost_ret (v:=.agg (rsc (aq 120) zV)) (results_cell_row (p:=4) (ty:=40) rfl _ _ b4 40 _ (0,0) _ rfl h6 Tryz.underlying40 rfl ct) rfl ?_
  refine ⟨none,0,0,rfl,RE.nil ucl 1 _ none 0,fun _ hk=>(bw hk).elim,?_,sp,vo,L,gb,gm,gs,(((HI.out W2 (Chg.refl [] W2))).new (B:=w.heap.size) jK.out iZ (fun y hy=>by obtain rfl:=aa hy;have:=HB.out;omega)),Nat.le_refl _,fun y hy=>.inl ⟨hy,?_⟩⟩
  ·exact CP.of ((((jJ.out.stay (Chg.refl [] W2)).up [b4]).and_ iZ)) (fun y hy=>.inr (by obtain rfl:=aa hy;have:=HB.out;omega))
  ·have h1:=jK.out y hy;have h2:=(jJ.out.stay (Chg.refl [] W2)).size;have h3:=iZ.size;omega
 obtain ⟨B,hB⟩:∃B,B = L[k].l:=⟨_,rfl⟩
 obtain ⟨u,hu⟩:∃u,u = L[k].v:=⟨_,rfl⟩
 obtain ⟨zh,vW⟩:∃zh:Nat,zh = L[k].h:=⟨_,rfl⟩
 have qJ:M.ob (x.h:Int) = some B:=by have:=(HI.out W2 (Chg.refl _ _)).ob.at_ hkl;rw [hh] at this;rw [this,hB]
 have AJ:=ah qJ
 have lN:=ah (show RR = (if x.k = 11 then (aq 0,some { M with ob:=upd M.ob x.h none }) else if (B.length:Int) < x.a+max x.s x.l.length then (aq 2,none) else if x.k = 12 then (⟨0,0,(B.drop x.a.toNat).take x.s.toNat⟩,none) else (aq 0,some { M with ob:=upd M.ob x.h (some (cj B x.a.toNat x.l)) })) by rw [jC.out];unfold fh;rw [qJ])
 have sJ:=(HI.out W2 (Chg.refl _ _)).ob.bt L[k] (List.getElem_mem hkl)
 rw [← hB,← hu] at sJ
 obtain ⟨lW,wH,yW⟩:=sJ
 obtain ⟨Au,cu,rfl⟩:∃A c,u = .slice A B.length c:=SE.form lW
 have qP:=ah (fun W (hc:Chg [] W2 W)=>SE.stay lW hc)
 have vY:=ah wH
 have pU:=(HI.out W2 (Chg.refl _ _)).ob.sl.re
 have q:=WB.voc (HI.out W2 (Chg.refl _ _)).blk
 have xU:=ah (SE.max (HI.out W2 (Chg.refl _ _)).ob.sl)
 obtain ⟨A,c,sP⟩:=SE.form (HI.out W2 (Chg.refl _ _)).ob.sl
 rw [sP] at pU q
 obtain ⟨g,off,rfl⟩:=RE.addr pU (show 0 < L.length by omega)
 have sM:=eB pU hkl
 rw [← hu,← vW] at sM
 have sI:=ah sP
 have Ej:=ah pU
 have AB:=ah (And.intro hB (And.intro hu (And.intro vW hh)))
 have i0:(0:Int)≤(k:Int):=by omega
 have i1:(k:Int) < (L.length:Int):=by omega
 have n0:decide ((k:Int) < 0) = false:=ac (by omega)
 have lZ:=ah hkl
 clear hB hu vW hh qJ lW wH yW sP pU
 go_upto_region 5 with (first|refine gc (ty:=92) (ad:=⟨g,off+k * 2,none⟩) (v:=.agg #[.int .u64 zh,.slice Au B.length cu]) rfl _ rfl rfl sM ?_|refine ma rfl rfl ?_;intro W3 h3 jD;have H3:=ah h3;have jE:=ah jD;clear h3 jD|refine mc (b:=W2.heap.size) (h':=zh) (u:=.slice Au B.length cu) rfl _ _ rfl rfl rfl rfl H3.out ?_;intro W4 h4 jT;have H4:=ah h4;have jR:=ah (show Chg [] W2 W4 from jE.out.trans jT (fun y hy=>.inr (by obtain rfl:=aa hy;exact Nat.le_refl _)));clear h4 jT)
 clear sM r0 r5 r6 r10 r11 rl q ml H3
 obtain ⟨r0,-,-,-,-,r5,r6,-,-,-,-,r11,rl,-⟩:=KB.cells (kY.out W4 jR.out)
 rw [HK.out] at r0
 have q:=WB.voc (HI.out W4 jR.out).blk
 rw [sI.out] at q
 have ml:=Blk.lt (HI.out W4 jR.out).blk
 have o1:W4.cell? ⟨W2.heap.size,1,none⟩ = some (.slice Au B.length cu):=by simpa using Blk.cell H4.out 1
 have ol:=Blk.lt H4.out
 obtain ⟨A0,Ai⟩:∃A0:Nat,x.a = A0:=⟨x.a.toNat,by have:=mL.out;omega⟩
 obtain ⟨S0,yL⟩:∃S0:Nat,S0 = x.l.length:=⟨_,rfl⟩
 have DM:x.s = 0:=mL.out.2.2.1
 have wS:=ah (And.intro Ai (And.intro yL DM))
 rw [Ai] at r5
 obtain ⟨T0,FK⟩:∃T0,T0 = A0+S0:=⟨_,rfl⟩
 have vH:=ah FK
 have kF:A0≤128∧1≤S0∧S0≤128:=by have:=mL.out;omega
 have qW:=ah kF
 have Fu:=ah (ru (by omega) (by omega):wrap64 ((A0:Int)+(S0:Int)) = (T0:Int)∧IntKind.i64.wrap ((A0:Int)+(S0:Int)) = (T0:Int))
 obtain ⟨Av,cv,xF⟩:=RE.form (HV.out W4 jR.out)
 rw [← yL] at xF
 have Ah:=ah xF
 rw [xF] at r11
 rw [DM] at r6
 clear Ai yL DM FK kF xF
 go_upto_region 11 with (fail)
 by_cases hbig:B.length < T0
 ·have d1:decide ((B.length:Int) < (T0:Int)) = true:=ae (by omega)
  have d1':decide (B.length < T0) = true:=ae hbig
  have Ci:=ah hbig
  clear hbig
  obtain rfl:RR = (aq 2,none):=by rw [lN.out,if_neg (by rw [HK.out];decide),if_pos (by have h1:=Ci.out;have h2:=wS.out;have h3:=vH.out;omega)]
  obtain ⟨Bq,vU⟩:=Fu.out
  go_wp2_with (first|refine bx rfl _ rfl (EVE.out 2) ?_ ?_;(focus (simp [Act.eval];done))|refine au (b:=b4) (x:=zRs) (v:=zV) (y:=aq 2) (u:=zV) rfl _ _ rfl rfl rfl rfl (kD.out W4 jR.out) ?_;intro W6 h6 iZ)
  refine bodyPost_ret (v:=.agg (rsc (aq 2) zV)) (results_cell_row (p:=4) (ty:=40) rfl _ _ b4 40 _ (0,0) _ rfl h6 Tryz.underlying40 rfl ct) rfl ?_
  refine ⟨none,0,0,rfl,RE.nil ucl 1 _ none 0,fun _ hk=>(bw hk).elim,?_,sp,vo,L,gb,gm,gs,(((HI.out W4 (jR.out))).new (B:=w.heap.size) jK.out iZ (fun y hy=>by obtain rfl:=aa hy;have:=HB.out;omega)),Nat.le_refl _,fun y hy=>.inl ⟨hy,?_⟩⟩
  ·exact CP.of ((((jJ.out.stay (jR.out)).up [b4]).and_ iZ)) (fun y hy=>.inr (by obtain rfl:=aa hy;have:=HB.out;omega))
  ·have h1:=jK.out y hy;have h2:=(jJ.out.stay (jR.out)).size;have h3:=iZ.size;omega
 ·have d1:decide ((B.length:Int) < (T0:Int)) = false:=ac (by omega)
  have d1':decide (B.length < T0) = false:=ac hbig
  have Ft:=ah (show A0+S0≤B.length by have h2:=vH.out;omega)
  obtain ⟨NB,hNB⟩:∃NB,NB = cj B A0 x.l:=⟨_,rfl⟩
  obtain rfl:RR = (aq 0,some { M with ob:=upd M.ob x.h (some NB) }):=by
   rw [lN.out,if_neg (by rw [HK.out];decide),if_neg (by have h1:=vH.out;have h2:=wS.out;omega),if_neg (by rw [HK.out];decide),hNB,wS.out.1]
   rfl
  have oL:=ah hNB
  obtain ⟨gu,offu,rfl⟩:=SE.addr (qP.out W4 jR.out) (show 0 < B.length by have h1:=qW.out;have h2:=Ft.out;omega)
  have HGU:=ah (show FW' M m vo ve L gb gm gu from .inr (.inr (.inr (.inl ⟨L[k]'hkl,List.getElem_mem hkl,by rw [← AB.out.2.1];exact gh ▸ List.mem_singleton.2 rfl⟩))))
  have hgu2:gu < w.heap.size:=jK.out gu HGU.out
  have DT:=ah (show b3≠gu∧b4≠gu by have:=HB.out;omega)
  have HGV:=ah (show gu∉own v from fun hk=>HDJ.out gu hk HGU.out)
  clear hbig hNB hgu2
  obtain ⟨Bq,vU⟩:=Fu.out
  go_upto_region 16 with (fail)
  clear Bq vU r0 r5 r6 r11 rl q ml o1 ol
  go_loopw [8] (fun iv wr=>∃t:Nat,t≤S0∧iv = .int .i64 t∧Hid (WIn wr m { M with ob:=upd M.ob (x.h:Int) (some (cj B A0 (x.l.take t))) } sp vo ve (L.set k ⟨x.h,cj B A0 (x.l.take t),.slice (some ⟨gu,offu,none⟩) B.length cu⟩) E gb gm gs)∧Hid (Chg [gu] W4 wr)) (fun iv _=>S0 - (intOf iv).toNat)
  case atStart =>
   refine ⟨0,by omega,rfl,ah ?_,ah (Chg.refl _ _)⟩
   have h1:=HI.out W4 jR.out
   have e1:L.set k ⟨x.h,cj B A0 (x.l.take 0),.slice (some ⟨gu,offu,none⟩) B.length cu⟩ = L:=by
    rw [uw,AB.out.2.1,← AB.out.2.2.2]
    have e2:(⟨(L[k]'hkl).h,B,(L[k]'hkl).v⟩:Ob) = L[k]'hkl:=by rw [AB.out.1]
    rw [e2]
    exact List.set_getElem_self _
   have e3:upd M.ob (x.h:Int) (some (cj B A0 (x.l.take 0))) = M.ob:=by
    rw [uw,← AJ.out]
    exact cZ _ _
   rw [e1,e3]
   exact h1
  case round =>
   obtain ⟨t,ht,rfl,mS,jV⟩:=hrel
   by_cases jF:t < S0
   ·have mH:=ah jF
    have dl:decide ((t:Int) < (S0:Int)) = true:=ae (by omega)
    have dl':decide (t < S0) = true:=ae jF
    have i0':(0:Int)≤(t:Int):=by omega
    have i1':(t:Int) < (S0:Int):=by omega
    go_upto_region 18 with (fail)
    refine rgt [0,0,0,1,0,0,0,1,0,1,0,0,0,1,0,0,1,0,3] [none,none,none,none,none,none,none,none,none,none,none,none,none,none,none,none,none,none,none] (fun _=>True) ?_
    have nO:Chg [] wr wr.drew:=(Chg.refl [] wr).drew
    have Ek:=ah (mS.out.stay nO)
    have jL:=ah (jV.out.stay nO)
    generalize wr.drew = W5 at Ek jL ⊢
    have htl:t < x.l.length:=by have:=wS.out;omega
    obtain ⟨Pp,vK⟩:∃P,P = A0+t:=⟨_,rfl⟩
    have Ef:=ah vK
    have HWW:=ah (ru (by have:=qW.out;omega) (by omega):wrap64 ((A0:Int)+(t:Int)) = (Pp:Int)∧IntKind.i64.wrap ((A0:Int)+(t:Int)) = (Pp:Int))
    have uC:=ah (ru (by have:=qW.out;omega) rfl:wrap64 ((t:Int)+1) = (t:Int)+1∧IntKind.i64.wrap ((t:Int)+1) = (t:Int)+1)
    have p0:(0:Int)≤(Pp:Int):=by omega
    have p1:(Pp:Int) < (B.length:Int):=by have:=Ft.out;omega
    have p1':Pp < B.length:=by omega
    have zA:KB W5 b3 x v:=Blk.chg (kY.out W4 jR.out) jL.out (by simp;exact DT.out.1)
    obtain ⟨-,-,-,-,-,s5,-,-,-,-,-,s11,sl,-⟩:=KB.cells zA
    rw [wS.out.1] at s5
    rw [Ah.out] at s11
    have DF:RE ucl 1 W5 v x.l:=RE.chg (HV.out W4 jR.out) jL.out (fun y hy Bt=>by obtain rfl:=aa Bt;exact HGV.out hy)
    rw [Ah.out] at DF
    obtain ⟨vg,vof,rfl⟩:=RE.addr DF (by omega)
    obtain ⟨y,hy⟩:∃y:Nat,y = x.l[t]'htl:=⟨_,rfl⟩
    have Dh:W5.cell? ⟨vg,vof+t,none⟩ = some (.int .u8 (y:Nat)):=by
     have h1:=RE.cell (size:=1) (enc:=ucl) (fun _=>rfl) DF (k:=t) (j:=0) htl Nat.zero_lt_one rfl
     rw [Nat.mul_one,Nat.add_zero] at h1
     rw [hy];exact h1
    have HY:=ah hy
    have hkL:k < (L.set k ⟨x.h,cj B A0 (x.l.take t),.slice (some ⟨gu,offu,none⟩) B.length cu⟩).length:=by rw [List.length_set];exact lZ.out
    have vO:(L.set k ⟨x.h,cj B A0 (x.l.take t),.slice (some ⟨gu,offu,none⟩) B.length cu⟩)[k] = ⟨x.h,cj B A0 (x.l.take t),.slice (some ⟨gu,offu,none⟩) B.length cu⟩:=List.getElem_set_self _
    have DX:=ah (And.intro hkL vO)
    have hq5:=WB.voc Ek.out.blk
    rw [sI.out] at hq5
    have ml:=Blk.lt Ek.out.blk
    have DC:=Ek.out.ob.sl.re
    rw [sI.out] at DC
    have hqo:W5.cell? ⟨g,off+k * 2+1,none⟩ = some (.slice (some ⟨gu,offu,none⟩) B.length cu):=RE.cell mq DC hkL (j:=1) (u:=.slice (some ⟨gu,offu,none⟩) B.length cu) (by omega) (by rw [vO];rfl)
    have pE:(cj B A0 (x.l.take t)).length = B.length:=by unfold cj;simp;have h1:=Ft.out;have h2:=wS.out;omega
    have sJ:=(Ek.out.ob.bt _ (List.getElem_mem hkL)).1
    rw [vO] at sJ
    simp only at sJ
    obtain ⟨yo,hyo⟩:∃yo:Nat,W5.cell? ⟨gu,offu+Pp,none⟩ = some (.int .u8 (yo:Nat)):=by
     have h1:=RE.cell (size:=1) (enc:=ucl) (fun _=>rfl) sJ.re (k:=Pp) (j:=0) (by rw [pE];exact p1') Nat.zero_lt_one rfl
     rw [Nat.mul_one,Nat.add_zero] at h1
     exact ⟨_,h1⟩
    have vN:=SE.frozen sJ (offu+Pp)
    have gl:=SE.own_lt sJ gu (gh ▸ List.mem_singleton.2 rfl)
    have HSL:=ah pE
    clear jF ht vK zA DF hy vO DC pE sJ mS jV nO p1'
    obtain ⟨zN,hw5'⟩:=HWW.out
    obtain ⟨hi5,hi5'⟩:=uC.out
    go_wp2_with (first|refine av fun K I=>?_|refine ai fun K I=>?_;go_simp;refine I _ _ ?_;clear I K|refine ao fun K I=>?_;go_simp|refine aj ?_)
    clear zN hw5' hi5 hi5'
    go_roundw
    case rel =>
     refine ⟨t+1,mH.out,by go_num,ah ?_,ah (jL.out.setCell (p:=⟨gu,offu+Pp,none⟩) (.inl (by simp)) _)⟩
     have h1:=Ek.out.poke DX.out.1 (g:=gu) (off:=offu) (n:=B.length) (c:=cu) (j:=Pp) (y:=y) (by rw [DX.out.2]) (by rw [DX.out.2];show Pp < (cj B A0 (x.l.take t)).length;rw [HSL.out];have h1:=Ef.out;have h2:=Ft.out;have h3:=mH.out;omega) (by rw [HY.out];exact pR.out.l _ (List.getElem_mem _))
     have e0:(cj B A0 (x.l.take t)).set Pp y = cj B A0 (x.l.take (t+1)):=by
      rw [HY.out,Ef.out]
      exact cT (by have h1:=Ft.out;have h2:=wS.out;omega) _
     rw [DX.out.2] at h1
     simp only [List.set_set] at h1
     rw [e0] at h1
     have e1:upd (upd M.ob (x.h:Int) (some (cj B A0 (x.l.take t)))) (x.h:Int) (some (cj B A0 (x.l.take (t+1)))) = upd M.ob (x.h:Int) (some (cj B A0 (x.l.take (t+1)))):=by
      funext z;unfold upd;split <;> rfl
     rw [e1] at h1
     exact h1
    case measure=>have:=mH.out;simp [intOf];omega
   ·obtain rfl:t = S0:=by omega
    have dl:decide ((t:Int) < (t:Int)) = false:=ac (by omega)
    have HWF:=ah (show WIn wr m { M with ob:=upd M.ob (x.h:Int) (some NB) } sp vo ve (L.set k ⟨x.h,NB,.slice (some ⟨gu,offu,none⟩) B.length cu⟩) E gb gm gs from by
     have h1:=mS.out
     rw [List.take_of_length_le (by have:=wS.out;omega),← oL.out] at h1
     exact h1)
    have DR:=ah jV.out
    clear jF ht mS jV
    go_wp2_with (first|refine bx rfl _ rfl EV0.out ?_ ?_;(focus (simp [Act.eval];done))|refine au (b:=b4) (x:=zRs) (v:=zV) (y:=aq 0) (u:=zV) rfl _ _ rfl rfl rfl rfl (Blk.chg (kD.out W4 jR.out) DR.out (by simp;exact DT.out.2)) ?_;intro W6 h6 iZ)
    refine bodyPost_ret (v:=.agg (rsc (aq 0) zV)) (results_cell_row (p:=4) (ty:=40) rfl _ _ b4 40 _ (0,0) _ rfl h6 Tryz.underlying40 rfl ct) rfl ?_
    have lC:Chg [gu] w wr:=((jJ.out.stay jR.out).up [gu]).and_ DR.out
    have uO:∀y,FW' { M with ob:=upd M.ob (x.h:Int) (some NB) } m vo ve (L.set k ⟨x.h,NB,.slice (some ⟨gu,offu,none⟩) B.length cu⟩) gb gm y→FW' M m vo ve L gb gm y:=fun y hy=>by
     rcases hy with h | h | h | ⟨o,ho,h⟩ | h
     ·exact .inl h
     ·exact .inr (.inl h)
     ·exact .inr (.inr (.inl h))
     ·rcases List.mem_or_eq_of_mem_set ho with ho | ho
      ·exact .inr (.inr (.inr (.inl ⟨o,ho,h⟩)))
      ·refine .inr (.inr (.inr (.inl ⟨L[k]'hkl,List.getElem_mem hkl,?_⟩)))
       rw [ho] at h
       rw [← AB.out.2.1]
       exact h
     ·exact .inr (.inr (.inr (.inr h)))
    refine ⟨none,0,0,rfl,RE.nil ucl 1 _ none 0,fun _ hk=>(bw hk).elim,?_,sp,vo,_,gb,gm,gs,HWF.out.new (B:=w.heap.size) (fun y hy=>jK.out y (uO y hy)) iZ (fun y hy=>by obtain rfl:=aa hy;have:=HB.out;omega),?_,fun y hy=>.inl ⟨uO y hy,?_⟩⟩
    ·exact (CP.of lC (fun y hy=>.inl (by obtain rfl:=aa hy;exact HGU.out)):CP (FW' M m vo ve L gb gm) w wr).trans (CP.of (F:=fun k=>k = b4) iZ (fun y hy=>.inl (aa hy))) (fun y hy=>.inr (by have:=HB.out;omega))
    ·rw [List.length_set];exact Nat.le_refl _
    ·have h1:=jK.out y (uO y hy);have h2:=lC.size;have h3:=iZ.size;omega
end Go.Proofs.YtfoleblcaloeoaaGreatDoor
