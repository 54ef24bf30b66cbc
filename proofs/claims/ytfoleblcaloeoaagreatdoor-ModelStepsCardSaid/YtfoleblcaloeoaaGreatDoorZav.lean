import Derived.Test.YtfoleblcaloeoaaGreatDoorZau
set_option maxHeartbeats 40000000
set_option maxRecDepth 20000
namespace Go.Proofs.YtfoleblcaloeoaaGreatDoor
open Go Go.RowKit
theorem so {a b:Int} (h:-9000000000000000000≤a∧a≤9000000000000000000) (e:a = b):wrap64 a = b∧IntKind.i64.wrap a = b:=by subst e;exact ⟨by unfold wrap64;omega,by rw [IntKind.wrap_i64];omega⟩
theorem infoOb:(Tryz.prog.info? 92).map (·.size) = some 2:=by kernel_rfl
theorem info92b:(Tryz.prog.info? 92).map (fun i=>(i.zero,i.size,i.bytes)) = some (some (.agg #[.int .u64 0,zV]),2,32):=by kernel_rfl
variable {L:List Ob}
theorem obl_one (h:∀o∈L,o.v.oneCell' = true):∀u∈fc obl L,u.oneCell' = true:=fun u hu=>by
 unfold fc at hu
 obtain ⟨o,ho,hx⟩:=List.mem_flatMap.1 hu
 simp [obl] at hx
 rcases hx with rfl | rfl
 ·rfl
 ·exact h o ho
variable {ob:Int→Option (List Nat)} {vo:Value} {w:World}
theorem OIn.one (h:OIn w vo L ob):∀o∈L,o.v.oneCell' = true:=fun o ho=>by
 obtain ⟨A,c,e⟩:=SE.form (h.bt o ho).1
 rw [e];rfl
theorem fG {g off n c:Nat} (h:RE obl 2 w (.slice (some ⟨g,off,none⟩) n c) L) {k:Nat} (hk:k < L.length):(loadVar 92 ⟨g,off+k * 2,none⟩).run Tryz.prog w = .ok (.agg #[.int .u64 L[k].h,L[k].v]) w:=by
 have c0:=RE.cell mj h hk (j:=0) (u:=.int .u64 L[k].h) (by omega) rfl;have c1:=RE.cell mj h hk (j:=1) (u:=L[k].v) (by omega) rfl;have:=run_loadVar_mid (P:=Tryz.prog) w g (off+k * 2) 92 [.int .u64 L[k].h,L[k].v] _ (fun j u hu=>by
  match j with
  | 0=>obtain rfl:=aq hu;exact c0
  | 1=>obtain rfl:=aq hu;exact c1
  | j+2=>cases hu) Tryz.underlying92 rfl infoOb
 simpa using this
abbrev OB (w:World) (b h:Nat) (v:Value):Prop:=Blk w b 92 #[.int .u64 h,v]
section
variable {ops:Array Oper} {rest:List Oper} {o:Oper} {a:Act} {w:World} {Q:Exit→Act→World→Prop} {b h h':Nat} {v u:Value}
theorem zero92:∀w,(zeroValue 92).run Tryz.prog w = .ok (.agg #[.int .u64 0,zV]) w:=by
 have h:(Tryz.prog.info? 92).map (fun i=>(i.zero,i.size)) = some (some (.agg #[.int .u64 0,zV]),2):=by kernel_rfl
 exact (zero_of_info h).1
theorem dK (w:World):(Instr.alloc 92 true (.tuple #[])).run Tryz.prog w = .ok (.pointer (some ⟨w.heap.size,0,none⟩)) (w.alloc (.cells #[.int .u64 ((0:Nat):Int),zV] 92)):=by simp [Instr.alloc,Sem.run_bind,zero92,newVar,newRow,run_newObj_alloc,Value.cells,zV]
theorem ng (hg:o.guard = none) (ho:o.op = .alloc 92)
  (h:∀w',OB w' w.heap.size 0 zV→Chg [] w w'→wpList Tryz.prog ops Q rest (a.put o.dst (.pointer (some ⟨w.heap.size,0,none⟩))) w'):wpList Tryz.prog ops Q (o :: rest) a w :=
 Great.wpList_runTo hg _ rfl _ _ (by unfold execOp;simp only [ho,Sem.run_bind,dK,Sem.run_pure,Result.andThen_ok]) (h _ (ax w _ _) ((av [] w).alloc _))
theorem nh (hg:o.guard = none) (z t:Operand) (ho:o.op = .store 92 z t) (hx:a.eval z = .pointer (some ⟨b,0,none⟩)) (hy:a.eval t = .agg #[.int .u64 h',u]) (hu:u.oneCell' = true) (h0:OB w b h v)
  (U:∀w',OB w' b h' u→Chg [b] w w'→wpList Tryz.prog ops Q rest (a.put o.dst undef) w'):wpList Tryz.prog ops Q (o :: rest) a w :=
 wpList_store_row hg 92 z t ho b _ hx hy 92 _ h0 infoOb rfl (by simp [hu,show ∀k z,(Value.int k z).oneCell' = true from fun _ _=>rfl]) (U _ (setRow_heap w b _ _ _ _ h0) ((av [b] w).setRow (.inl (by simp)) _))
end
variable {Q:Exit→Act→World→Prop} {K:Act→World→Prop} {a:Act} {o:Oper}
theorem mb (s x:Operand)
  (ho:o.op = .call { callee:=.builtin .append,args:=#[s,x],argTypes:=#[77,77] }) (v y:Value) (hs:a.eval s = v) (hx:a.eval x = y) {l m:List Ob} (hv:SE obl 2 92 w v l) (hy:RE obl 2 w y m) (h1:∀o∈m,o.v.oneCell' = true) (kQ:l.length+m.length≤1000000)
  (h:∀A n c w',Hid (n = (l ++ m).length)→SE obl 2 92 w' (.slice A n c) (l ++ m)→Chg (own v) w w'→Grow w v (.slice A n c)→K (a.put o.dst (.slice A n c)) w'):o.wp Tryz.prog a w K Q:=by
 obtain ⟨i5,hi,hz,tC,tP⟩:=info_parts info92b;refine mt s x 77 ho 92 Tryz.underlying77 hi hz tC tP rfl hs hv hx hy (obl_one h1) (by unfold maxLen;omega) (by omega) fun v' w' h2 h3 h4=>?_;have pY:SE obl 2 92 w' v' (l ++ m):=by
  unfold SE;rw [List.length_append,lc];exact h2
 obtain ⟨A,c,rfl⟩:=pY.form;exact h A _ c w' rfl pY h3 (pq h4)
variable {size:Nat}
theorem RE.take_ {α:Type} {enc:α→List Value} (he:∀x,(enc x).length = size) {A:Option Addr} {n c k:Nat} {l:List α} (h:RE enc size w (.slice A n c) l) (hk:k≤l.length):RE enc size w (.slice A k c) (l.take k):=by
 obtain ⟨h1,A',c',e,hc,h2⟩:=h;injection e with e1 e2 e3;subst e1;subst e2;subst e3;unfold RE;rw [List.length_take,Nat.min_eq_left hk];refine ⟨?_,_,_,rfl,by omega,fun hp=>?_⟩
 ·rw [fz he,List.length_take,Nat.min_eq_left hk]
 ·obtain ⟨g,off,e2,h3⟩:=h2 (by omega);refine ⟨g,off,e2,fun j u hu=>h3 j u ?_⟩;rw [← fc_take he,List.getElem?_take] at hu;split at hu
  ·exact hu
  ·cases hu
theorem RE.drop_ {α:Type} {enc:α→List Value} (he:∀x,(enc x).length = size) {g off n c k:Nat} {l:List α} (h:RE enc size w (.slice (some ⟨g,off,none⟩) n c) l) (hk:k < l.length):RE enc size w (.slice (some ⟨g,off+k * size,none⟩) (l.length - k) (c - k)) (l.drop k):=by
 obtain ⟨h1,A',c',e,hc,h2⟩:=h;injection e with e1 e2 e3;subst e1;subst e2;subst e3;unfold RE;rw [List.length_drop];refine ⟨?_,_,_,rfl,by omega,fun hp=>⟨_,_,rfl,fun j u hu=>?_⟩⟩
 ·rw [fz he,List.length_drop]
 ·obtain ⟨g',off',e2,h3⟩:=h2 (by omega);injection e2 with e2;injection e2 with e4 e5;subst e4;subst e5;rw [← gY he,List.getElem?_drop] at hu;rw [Nat.add_assoc];exact h3 _ _ hu
theorem SO_none (w:World):SE obl 2 92 (w.alloc (.cells #[] 92)) (.slice (some ⟨w.heap.size,0,none⟩) 0 0) []:=pf w 92 2
variable {gs:Nat→Sq} {gb gm:Nat→Nat} {E:List Nat} {ve:Value} {sp:Nat→Option Nat} {M:Mo} {m:Nat}
theorem bJ (h:WIn w m M sp vo ve L E gb gm gs) (kG:∀k,FW' M m vo ve L gb gm k→k < w.heap.size)
  {x:Cl} (hx:x.Ok) (hL:L.length≤500000) (hk:x.k = 11) (v:Value) (hv:v.oneCell' = true) (hvb:RB w v x.l) :
  Calls Tryz.prog 76 #[.pointer (some ⟨m,0,none⟩),.agg (clc x v)] w fun e w'=>DoR w w' m M vo ve L E gb gm (gj M x) e:=by
 obtain ⟨W1,kP⟩:∃W1,W1 = w.alloc (.cells (clc x v) 47):=⟨_,rfl⟩;obtain ⟨W2,kJ⟩:∃W2,W2 = W1.alloc (.cells (rsc zRs zV) 40):=⟨_,rfl⟩;have c01:Chg [] w W1:=by rw [kP];exact (av [] w).alloc _
 have c12:Chg [] W1 W2:=by rw [kJ];exact (av [] W1).alloc _
 have lM:KB W2 w.heap.size x v:=bh (by rw [kP];exact ax w _ _) c12;have lW:XB W2 W1.heap.size zRs zV:=by rw [kJ];exact ax W1 _ _
 have e1:W1.heap.size = w.heap.size+1:=by rw [kP];exact af _ _
 have e2:W2.heap.size = w.heap.size+2:=by rw [kJ,af];omega
 obtain ⟨b3,lD⟩:∃y,y = w.heap.size:=⟨_,rfl⟩;obtain ⟨b4,lZ⟩:∃y,y = W1.heap.size:=⟨_,rfl⟩;rw [← lD] at lM;rw [← lZ] at lW;have HI:=bk (fun W (hc:Chg [] W2 W)=>h.stay ((c01.stay c12).stay hc));have mC:=bk (fun W (hc:Chg [] W2 W)=>(bh lM hc:KB W b3 x v));have lF:=bk (fun W (hc:Chg [] W2 W)=>(bf lW hc:XB W b4 zRs zV));have kS:=bk (c01.stay c12);have mH:=bk kP;have kW:=bk kJ;have HB:=bk (show b3 = w.heap.size∧b4 = w.heap.size+1∧W2.heap.size = w.heap.size+2 by omega);have lI:=bk lD;have lG:=bk lZ;have kR:=bk kG;have HK:=bk hk;have oX:=bk hx;have HL:=bk hL;have HV:=bk (fun W (hc:Chg [] W2 W)=>RE.stay hvb ((c01.stay c12).stay hc));have EV0:=bk br_0;have EVE:=bk (fun e=>br_e e);skip;obtain ⟨RR,lJ⟩:∃R,R = gj M x:=⟨_,rfl⟩;rw [← lJ];have kH:=bk lJ;clear h kG hx hL c01 c12 lM lW e1 e2 lD lZ kP kJ lJ hvb hk;go_enter Tryz.func76,Tryz.ntmps76;go_upto_region 1 with (first|refine cc rfl _ rfl rfl ?_;try rw [← mH.out]|refine ck rfl rfl ?_;try rw [← kW.out])
 try rw [← lI.out,← lG.out]
 obtain ⟨r0,-,-,-,-,r5,r6,-,-,-,r10,r11,rl,-⟩:=ay (mC.out W2 (av _ _));rw [HK.out] at r0;have ml:=bb (HI.out W2 (av _ _)).blk;go_wp2_with fail;refine (tr (HI.out W2 (av _ _)) x.h).mono ?_;rintro e W4 ⟨⟨rfl,lR⟩ | ⟨k,rfl,nC,hh⟩,rfl⟩
 ·obtain rfl:RR = (bw 120,none):=by rw [kH.out];unfold gj;rw [(HI.out W2 (av _ _)).ob.none_ lR]
  clear lR;go_wp2_with (first|refine cz rfl _ rfl (EVE.out 120) ?_ ?_;(focus (simp [Act.eval];done))|refine bu (b:=b4) (x:=zRs) (v:=zV) (y:=bw 120) (u:=zV) rfl _ _ rfl rfl rfl rfl (lF.out W2 (av _ _)) ?_;intro W6 h6 kF);refine bodyPost_ret (v:=.agg (rsc (bw 120) zV)) (results_cell_row (p:=4) (ty:=40) rfl _ _ b4 40 _ (0,0) _ rfl h6 Tryz.underlying40 rfl dq) rfl ?_;refine ⟨none,0,0,rfl,RE.nil ucl 1 _ none 0,fun _ hk=>(cw hk).elim,?_,sp,vo,L,gb,gm,gs,(((HI.out W2 (av [] W2))).new (B:=w.heap.size) kR.out kF (fun y hy=>by obtain rfl:=aa hy;have:=HB.out;omega)),Nat.le_refl _,fun y hy=>.inl ⟨hy,?_⟩⟩
  ·exact CP.of ((((kS.out.stay (av [] W2)).up [b4]).and_ kF)) (fun y hy=>.inr (by obtain rfl:=aa hy;have:=HB.out;omega))
  ·have h1:=kR.out y hy;have h2:=(kS.out.stay (av [] W2)).size;have h3:=kF.size;omega
 obtain ⟨B,hB⟩:∃B,B = L[k].l:=⟨_,rfl⟩;obtain ⟨u,hu⟩:∃u,u = L[k].v:=⟨_,rfl⟩;obtain ⟨zh,xS⟩:∃zh:Nat,zh = L[k].h:=⟨_,rfl⟩;have rW:M.ob (x.h:Int) = some B:=by have:=(HI.out W2 (av _ _)).ob.at_ nC;rw [hh] at this;rw [this,hB]
 have xZ:=bk rW;have mZ:=bk (show RR = (if x.k = 11 then (bw 0,some { M with ob:=upd M.ob x.h none }) else if (B.length:Int) < x.a+max x.s x.l.length then (bw 2,none) else if x.k = 12 then (⟨0,0,(B.drop x.a.toNat).take x.s.toNat⟩,none) else (bw 0,some { M with ob:=upd M.ob x.h (some (di B x.a.toNat x.l)) })) by rw [kH.out];unfold gj;rw [rW]);have uE:=(HI.out W2 (av _ _)).ob.bt L[k] (ao nC);rw [← hB,← hu] at uE;obtain ⟨mP,yG,AN⟩:=uE;obtain ⟨Au,cu,rfl⟩:∃A c,u = .slice A B.length c:=SE.form mP;have sE:=bk (fun W (hc:Chg [] W2 W)=>SE.stay mP hc);have zN:=bk yG;have rK:=(HI.out W2 (av _ _)).ob.sl.re;have q:=WB.voc (HI.out W2 (av _ _)).blk;have DF:=bk (SE.max (HI.out W2 (av _ _)).ob.sl);obtain ⟨A,c,sL⟩:=SE.form (HI.out W2 (av _ _)).ob.sl;rw [sL] at rK q;obtain ⟨g,off,rfl⟩:=RE.addr rK (show 0 < L.length by omega);have uF:=fG rK nC;rw [← hu,← xS] at uF;have sF:=bk sL;have Fo:=bk rK;have BK:=bk (ai hB (ai hu (ai xS hh)));have i0:(0:Int)≤(k:Int):=by omega
 have i1:(k:Int) < (L.length:Int):=by omega
 have n0:decide ((k:Int) < 0) = false:=ac (by omega);have oT:=bk nC;clear hB hu xS hh rW mP yG AN sL rK;go_upto_region 5 with (first|refine em (ty:=92) (ad:=⟨g,off+k * 2,none⟩) (v:=.agg #[.int .u64 zh,.slice Au B.length cu]) rfl _ rfl rfl uF ?_|refine ng rfl rfl ?_;intro W3 h3 kM;have H3:=bk h3;have kL:=bk kM;clear h3 kM|refine nh (b:=W2.heap.size) (h':=zh) (u:=.slice Au B.length cu) rfl _ _ rfl rfl rfl rfl H3.out ?_;intro W4 h4 kZ;have H4:=bk h4;have lA:=bk (show Chg [] W2 W4 from kL.out.trans kZ (fun y hy=>.inr (by obtain rfl:=aa hy;exact Nat.le_refl _)));clear h4 kZ)
 clear uF r0 r5 r6 r10 r11 rl q ml H3;obtain ⟨r0,-,-,-,-,r5,r6,-,-,-,-,r11,rl,-⟩:=ay (mC.out W4 lA.out);rw [HK.out] at r0;have q:=WB.voc (HI.out W4 lA.out).blk;rw [sF.out] at q;have ml:=bb (HI.out W4 lA.out).blk;have o1:W4.cell? ⟨W2.heap.size,1,none⟩ = some (.slice Au B.length cu):=by simpa using Blk.cell H4.out 1
 have ol:=bb H4.out;obtain rfl:RR = (bw 0,some { M with ob:=upd M.ob x.h none }):=by rw [mZ.out,ah HK.out]
 go_upto_region 9 with (fail)
 clear r0 r5 r6 r11 rl q ml o1 ol;refine rgt [0,6,0,0,0,5,0,0,6,0,0,0,5,0,0,0,6,0,0,3] [none,none,none,none,none,none,none,none,none,none,none,none,none,none,none,none,none,none,none,none] (fun W=>Chg [] W2 W) ?_;have hS:Chg [] W2 W4.drew:=lA.out.drew;generalize W4.drew = W5 at hS ⊢;have ml:=bb (HI.out W5 hS).blk;have CQ:=bk (fun W (h:Chg [] W2 W)=>(gt Tryz.underlying77 (by rw [← sF.out];exact WB.voc (HI.out W h).blk):(loadVar 77 ⟨m,103,none⟩).run Tryz.prog W = .ok (.slice (some ⟨g,off,none⟩) L.length c) W));have GH:=bk (fun W (h:Chg [] W2 W)=>(sF.out ▸ (HI.out W h).ob.sl.re:RE obl 2 W (.slice (some ⟨g,off,none⟩) L.length c) L));have pI:=bk (OIn.one (HI.out W2 (av _ _)).ob);have tL:L.length≤c:=by obtain ⟨-,A9,c9,e9,h9,-⟩:=Fo.out;injection e9 with _ _ e9;omega
 have Gg:=bk tL;have kc:k≤c:=by omega
 go_wp2_with (first|refine ca 77 _ rfl rfl CQ.out hS ?_|refine cdA fun K U=>?_|refine bn fun K U=>?_;go_simp|refine bq ?_);(refine cd hS fun K U=>?_);go_simp;obtain ⟨W6,pN⟩:∃W,W = W5.alloc (.cells #[] 92):=⟨_,rfl⟩;have kF:Chg [] W5 W6:=by rw [pN];exact (av [] _).alloc _
 have rZ:SE obl 2 92 W6 (.slice (some ⟨W5.heap.size,0,none⟩) 0 0) []:=by rw [pN];exact SO_none W5
 try rw [← pN]
 obtain ⟨b9,mT⟩:∃y,y = W5.heap.size:=⟨_,rfl⟩;rw [← mT] at rZ ⊢;have tW:=bk (show W2.heap.size≤b9 by have:=hS.size;omega);have tJ:=bk rZ;replace hS:Chg [] W2 W6:=hS.stay kF;refine U _ _ hS ?_;clear U K pN mT kF rZ ml;have ml:=bb (HI.out W6 hS).blk;go_wp2_with (first|refine ca 77 _ rfl rfl CQ.out hS ?_|refine cdA fun K U=>?_|refine bn fun K U=>?_;go_simp|refine bq ?_);(refine cd hS fun K U=>?_);refine mb _ _ rfl (.slice (some ⟨b9,0,none⟩) 0 0) (.slice (some ⟨g,off,none⟩) k c) rfl rfl (l:=[]) (m:=L.take k) tJ.out (RE.take_ mj (GH.out W6 hS) (Nat.le_of_lt oT.out)) (fun o ho=>pI.out o (List.mem_of_mem_take ho)) (by have:=HL.out;rw [List.length_take];simp;omega) ?_;have pW:W2.heap.size≤W6.heap.size:=hS.size;intro A7 n7 c7 W7 vD tS kN tN;replace hS:Chg [] W2 W7:=hS.trans kN (fun y hy=>.inr (by rw [fd] at hy;obtain rfl:=aa hy;exact tW.out));refine U _ _ hS ?_;rw [List.nil_append] at vD tS;have qN:=bk tS;have vI:=bk (show ∀i∈own (.slice A7 n7 c7),W2.heap.size≤i from fun i hi=>by
  rcases tN i hi with h1 | h1
  ·rw [fd] at h1;obtain rfl:=aa h1;exact tW.out
  ·exact au pW h1)
 clear U K pW tS kN tN tJ vD ml;have ml:=bb (HI.out W7 hS).blk;obtain ⟨k1,AQ⟩:∃k1,k1 = k+1:=⟨_,rfl⟩;have HK1:=bk AQ;have CH:wrap64 ((k:Int)+1) = (k1:Int):=by have:=HL.out;unfold wrap64;omega
 have xQ:IntKind.i64.wrap ((k:Int)+1) = (k1:Int):=by have:=HL.out;rw [IntKind.wrap_i64];omega
 have kl1:k1≤L.length:=by omega
 have kc1:k1≤c:=by omega
 have kl1':(k1:Int)≤(L.length:Int):=by omega
 have kc1':(k1:Int)≤(c:Int):=by omega
 clear AQ;by_cases Fw:c = k1
 ·have vW:=bk (show RE obl 2 W7 (.slice (some ⟨g,off,none⟩) 0 0) (L.drop k1) from by
   rw [List.drop_eq_nil_of_le (by omega)]
   exact RE.nil ..)
  subst Fw;go_wp2_with (first|refine ca 77 _ rfl rfl CQ.out hS ?_|refine cdA fun K U=>?_|refine bn fun K U=>?_;go_simp|refine bq ?_);(refine cd hS fun K U=>?_);refine mb _ _ rfl (.slice A7 n7 c7) (.slice (some ⟨g,off,none⟩) 0 0) rfl rfl qN.out vW.out (fun o ho=>pI.out o (List.mem_of_mem_drop ho)) (by have:=HL.out;rw [List.length_take,List.length_drop];omega) ?_;intro A8 n8 c8 W8 yM Iz oE yK;have yF:Chg [] W2 W8:=hS.trans oE (fun y hy=>.inr (vI.out y hy));refine U _ _ yF ?_;have DH:=bk Iz;have BQ:=bk (show ∀i∈own (.slice A8 n8 c8),W2.heap.size≤i from fun i hi=>by
   rcases yK i hi with h1 | h1
   ·exact vI.out i h1
   ·exact au hS.size h1)
  have q8:=WB.voc (HI.out W8 yF).blk;have f8:=Blk.frozen (HI.out W8 yF).blk 103;have ml8:=bb (HI.out W8 yF).blk;have mR:=bk yF;clear U K Iz oE yK yM yF hS ml vW qN vI;go_upto_region 10 with (first|refine cdA fun K U=>?_|refine bn fun K U=>?_;go_simp|refine bq ?_)
  have mT:WB (W8.setCell ⟨m,103,none⟩ (.slice A8 n8 c8)) m M.c sp (.slice A8 n8 c8) ve:=WB.set_vo (HI.out W8 mR.out).blk _;have lC:Chg [m] W8 (W8.setCell ⟨m,103,none⟩ (.slice A8 n8 c8)):=(av [m] W8).setCell (p:=⟨m,103,none⟩) (.inl (by simp)) _;clear q8 f8 ml8;generalize W8.setCell ⟨m,103,none⟩ (.slice A8 n8 c8) = W9 at mT lC ⊢;have wW:=DH.out;rw [HK1.out] at wW;have tR:=(HI.out W8 mR.out).ob.del oT.out wW (av _ _);have wS:=tR.chg lC (fun y hy=>by simp;exact fun e=>SE.not_blk tR.sl (HI.out W8 mR.out).blk (by decide) (e ▸ hy)) (fun o ho y hy=>by simp;exact fun e=>SE.not_blk (tR.bt o ho).1 (HI.out W8 mR.out).blk (by decide) (e ▸ hy));rw [BK.out.2.2.2] at wS;have HW9:=bk ((HI.out W8 mR.out).other lC (HI.out W8 mR.out).blk (by decide) (by decide) wS mT);have mM:=bk lC;clear mT lC tR wS wW;go_wp2_with (first|refine cz rfl _ rfl EV0.out ?_ ?_;(focus (simp [Act.eval];done))|refine bu (b:=b4) (x:=zRs) (v:=zV) (y:=bw 0) (u:=zV) rfl _ _ rfl rfl rfl rfl (aw (lF.out W8 mR.out) mM.out (by have:=HB.out;have:=kR.out m (.inl rfl);simp;omega)) ?_;intro W10 h6 kF);refine bodyPost_ret (v:=.agg (rsc (bw 0) zV)) (results_cell_row (p:=4) (ty:=40) rfl _ _ b4 40 _ (0,0) _ rfl h6 Tryz.underlying40 rfl dq) rfl ?_;have hz8:=mR.out.size;have CJ:=mM.out.size;have vQ:=kF.size;have Dh:=HB.out.2.2;have Eo:Chg [m] w W9:=((kS.out.stay mR.out).up [m]).and_ mM.out;have tQ:∀y,FW' M m vo ve L gb gm y→y≠b4:=fun y hy e=>by have h1:=kR.out y hy;have h2:=HB.out;omega
  refine ⟨none,0,0,rfl,RE.nil ucl 1 _ none 0,fun _ hk=>(cw hk).elim,?_,sp,.slice A8 n8 c8,L.take k ++ L.drop (k+1),gb,gm,gs,?_,?_,fun y hy=>?_⟩
  ·exact (CP.of Eo (fun y hy=>.inl (by obtain rfl:=aa hy;exact .inl rfl)):CP (FW' M m vo ve L gb gm) w W9).trans (CP.of (F:=fun k=>k = b4) kF (fun y hy=>.inl (aa hy))) (fun y hy=>.inr (by have:=HB.out;omega))
  ·have hw:=HW9.out.cp (CP.of (F:=fun k=>k = b4) kF (fun y hy=>.inl (aa hy))) fun y hy e=>?_
   ·exact hw
   ·subst e;rcases hy with h | h | h | ⟨o,ho,h⟩ | ⟨i,q,hi,h⟩
    ·exact tQ _ (.inl h) rfl
    ·have h1:=BQ.out _ h;have h2:=HB.out;omega
    ·exact tQ _ (.inr (.inr (.inl h))) rfl
    ·refine tQ _ (.inr (.inr (.inr (.inl ⟨o,?_,h⟩)))) rfl;rcases List.mem_append.1 ho with ho | ho
     ·exact List.mem_of_mem_take ho
     ·exact List.mem_of_mem_drop ho
    ·exact tQ _ (.inr (.inr (.inr (.inr ⟨i,q,hi,h⟩)))) rfl
  ·rw [List.length_append,List.length_take,List.length_drop];omega
  ·have nK:∀y,FW' M m vo ve L gb gm y→y < W10.heap.size:=fun y hy=>by have:=kR.out y hy;omega
   rcases hy with h | h | h | ⟨o,ho,h⟩ | ⟨i,q,hi,h⟩
   ·exact .inl ⟨.inl h,nK _ (.inl h)⟩
   ·have h1:=BQ.out _ h;have h2:=SE.own_lt DH.out _ h;exact .inr ⟨by omega,by omega⟩
   ·exact .inl ⟨.inr (.inr (.inl h)),nK _ (.inr (.inr (.inl h)))⟩
   ·have h1:FW' M m vo ve L gb gm y:=.inr (.inr (.inr (.inl ⟨o,(by
     rcases List.mem_append.1 ho with ho | ho
     ·exact List.mem_of_mem_take ho
     ·exact List.mem_of_mem_drop ho),h⟩)))
    exact .inl ⟨h1,nK _ h1⟩
   ·have h1:FW' M m vo ve L gb gm y:=.inr (.inr (.inr (.inr ⟨i,q,hi,h⟩)));exact .inl ⟨h1,nK _ h1⟩
 ·have nck:¬ k1 = c:=fun e=>Fw e.symm;have vW:=bk (show RE obl 2 W7 (.slice (some ⟨g,off+k1 * 2,none⟩) (L.length - k1) (c - k1)) (L.drop k1) from by
   by_cases e:k1 < L.length
   ·exact RE.drop_ mj (GH.out W7 hS) e
   ·have e2:L.length - k1 = 0:=by omega
    rw [e2,List.drop_eq_nil_of_le (by omega)]
    exact RE.nil ..)
  go_wp2_with (first|refine ca 77 _ rfl rfl CQ.out hS ?_|refine cdA fun K U=>?_|refine bn fun K U=>?_;go_simp|refine bq ?_);(refine cd hS fun K U=>?_);refine mb _ _ rfl (.slice A7 n7 c7) (.slice (some ⟨g,off+k1 * 2,none⟩) (L.length - k1) (c - k1)) rfl rfl qN.out vW.out (fun o ho=>pI.out o (List.mem_of_mem_drop ho)) (by have:=HL.out;rw [List.length_take,List.length_drop];omega) ?_;intro A8 n8 c8 W8 yM Iz oE yK;have yF:Chg [] W2 W8:=hS.trans oE (fun y hy=>.inr (vI.out y hy));refine U _ _ yF ?_;have DH:=bk Iz;have BQ:=bk (show ∀i∈own (.slice A8 n8 c8),W2.heap.size≤i from fun i hi=>by
   rcases yK i hi with h1 | h1
   ·exact vI.out i h1
   ·exact au hS.size h1)
  have q8:=WB.voc (HI.out W8 yF).blk;have f8:=Blk.frozen (HI.out W8 yF).blk 103;have ml8:=bb (HI.out W8 yF).blk;have mR:=bk yF;clear U K Iz oE yK yM yF hS ml vW qN vI;go_upto_region 10 with (first|refine cdA fun K U=>?_|refine bn fun K U=>?_;go_simp|refine bq ?_)
  have mT:WB (W8.setCell ⟨m,103,none⟩ (.slice A8 n8 c8)) m M.c sp (.slice A8 n8 c8) ve:=WB.set_vo (HI.out W8 mR.out).blk _;have lC:Chg [m] W8 (W8.setCell ⟨m,103,none⟩ (.slice A8 n8 c8)):=(av [m] W8).setCell (p:=⟨m,103,none⟩) (.inl (by simp)) _;clear q8 f8 ml8;generalize W8.setCell ⟨m,103,none⟩ (.slice A8 n8 c8) = W9 at mT lC ⊢;have wW:=DH.out;rw [HK1.out] at wW;have tR:=(HI.out W8 mR.out).ob.del oT.out wW (av _ _);have wS:=tR.chg lC (fun y hy=>by simp;exact fun e=>SE.not_blk tR.sl (HI.out W8 mR.out).blk (by decide) (e ▸ hy)) (fun o ho y hy=>by simp;exact fun e=>SE.not_blk (tR.bt o ho).1 (HI.out W8 mR.out).blk (by decide) (e ▸ hy));rw [BK.out.2.2.2] at wS;have HW9:=bk ((HI.out W8 mR.out).other lC (HI.out W8 mR.out).blk (by decide) (by decide) wS mT);have mM:=bk lC;clear mT lC tR wS wW;go_wp2_with (first|refine cz rfl _ rfl EV0.out ?_ ?_;(focus (simp [Act.eval];done))|refine bu (b:=b4) (x:=zRs) (v:=zV) (y:=bw 0) (u:=zV) rfl _ _ rfl rfl rfl rfl (aw (lF.out W8 mR.out) mM.out (by have:=HB.out;have:=kR.out m (.inl rfl);simp;omega)) ?_;intro W10 h6 kF);refine bodyPost_ret (v:=.agg (rsc (bw 0) zV)) (results_cell_row (p:=4) (ty:=40) rfl _ _ b4 40 _ (0,0) _ rfl h6 Tryz.underlying40 rfl dq) rfl ?_;have hz8:=mR.out.size;have CJ:=mM.out.size;have vQ:=kF.size;have Dh:=HB.out.2.2;have Eo:Chg [m] w W9:=((kS.out.stay mR.out).up [m]).and_ mM.out;have tQ:∀y,FW' M m vo ve L gb gm y→y≠b4:=fun y hy e=>by have h1:=kR.out y hy;have h2:=HB.out;omega
  refine ⟨none,0,0,rfl,RE.nil ucl 1 _ none 0,fun _ hk=>(cw hk).elim,?_,sp,.slice A8 n8 c8,L.take k ++ L.drop (k+1),gb,gm,gs,?_,?_,fun y hy=>?_⟩
  ·exact (CP.of Eo (fun y hy=>.inl (by obtain rfl:=aa hy;exact .inl rfl)):CP (FW' M m vo ve L gb gm) w W9).trans (CP.of (F:=fun k=>k = b4) kF (fun y hy=>.inl (aa hy))) (fun y hy=>.inr (by have:=HB.out;omega))
  ·have hw:=HW9.out.cp (CP.of (F:=fun k=>k = b4) kF (fun y hy=>.inl (aa hy))) fun y hy e=>?_
   ·exact hw
   ·subst e;rcases hy with h | h | h | ⟨o,ho,h⟩ | ⟨i,q,hi,h⟩
    ·exact tQ _ (.inl h) rfl
    ·have h1:=BQ.out _ h;have h2:=HB.out;omega
    ·exact tQ _ (.inr (.inr (.inl h))) rfl
    ·refine tQ _ (.inr (.inr (.inr (.inl ⟨o,?_,h⟩)))) rfl;rcases List.mem_append.1 ho with ho | ho
     ·exact List.mem_of_mem_take ho
     ·exact List.mem_of_mem_drop ho
    ·exact tQ _ (.inr (.inr (.inr (.inr ⟨i,q,hi,h⟩)))) rfl
  ·rw [List.length_append,List.length_take,List.length_drop];omega
  ·have nK:∀y,FW' M m vo ve L gb gm y→y < W10.heap.size:=fun y hy=>by have:=kR.out y hy;omega
   rcases hy with h | h | h | ⟨o,ho,h⟩ | ⟨i,q,hi,h⟩
   ·exact .inl ⟨.inl h,nK _ (.inl h)⟩
   ·have h1:=BQ.out _ h;have h2:=SE.own_lt DH.out _ h;exact .inr ⟨by omega,by omega⟩
   ·exact .inl ⟨.inr (.inr (.inl h)),nK _ (.inr (.inr (.inl h)))⟩
   ·have h1:FW' M m vo ve L gb gm y:=.inr (.inr (.inr (.inl ⟨o,(by
     rcases List.mem_append.1 ho with ho | ho
     ·exact List.mem_of_mem_take ho
     ·exact List.mem_of_mem_drop ho),h⟩)))
    exact .inl ⟨h1,nK _ h1⟩
   ·have h1:FW' M m vo ve L gb gm y:=.inr (.inr (.inr (.inr ⟨i,q,hi,h⟩)));exact .inl ⟨h1,nK _ h1⟩
theorem bK (h:WIn w m M sp vo ve L E gb gm gs) (kG:∀k,FW' M m vo ve L gb gm k→k < w.heap.size)
  {x:Cl} (hx:x.Ok) (hL:L.length≤500000) (hk:x.k = 12) (hw:dr M.c x = false) (v:Value) (hv:v.oneCell' = true) (hvb:RB w v x.l) :
  Calls Tryz.prog 76 #[.pointer (some ⟨m,0,none⟩),.agg (clc x v)] w fun e w'=>DoR w w' m M vo ve L E gb gm (gj M x) e:=by
 obtain ⟨W1,kP⟩:∃W1,W1 = w.alloc (.cells (clc x v) 47):=⟨_,rfl⟩;obtain ⟨W2,kJ⟩:∃W2,W2 = W1.alloc (.cells (rsc zRs zV) 40):=⟨_,rfl⟩;have c01:Chg [] w W1:=by rw [kP];exact (av [] w).alloc _
 have c12:Chg [] W1 W2:=by rw [kJ];exact (av [] W1).alloc _
 have lM:KB W2 w.heap.size x v:=bh (by rw [kP];exact ax w _ _) c12;have lW:XB W2 W1.heap.size zRs zV:=by rw [kJ];exact ax W1 _ _
 have e1:W1.heap.size = w.heap.size+1:=by rw [kP];exact af _ _
 have e2:W2.heap.size = w.heap.size+2:=by rw [kJ,af];omega
 obtain ⟨b3,lD⟩:∃y,y = w.heap.size:=⟨_,rfl⟩;obtain ⟨b4,lZ⟩:∃y,y = W1.heap.size:=⟨_,rfl⟩;rw [← lD] at lM;rw [← lZ] at lW;have HI:=bk (fun W (hc:Chg [] W2 W)=>h.stay ((c01.stay c12).stay hc));have mC:=bk (fun W (hc:Chg [] W2 W)=>(bh lM hc:KB W b3 x v));have lF:=bk (fun W (hc:Chg [] W2 W)=>(bf lW hc:XB W b4 zRs zV));have kS:=bk (c01.stay c12);have mH:=bk kP;have kW:=bk kJ;have HB:=bk (show b3 = w.heap.size∧b4 = w.heap.size+1∧W2.heap.size = w.heap.size+2 by omega);have lI:=bk lD;have lG:=bk lZ;have kR:=bk kG;have HK:=bk hk;have oX:=bk hx;have HL:=bk hL;have HV:=bk (fun W (hc:Chg [] W2 W)=>RE.stay hvb ((c01.stay c12).stay hc));have EV0:=bk br_0;have EVE:=bk (fun e=>br_e e);have nY:=bk (iI hw hk);obtain ⟨RR,lJ⟩:∃R,R = gj M x:=⟨_,rfl⟩;rw [← lJ];have kH:=bk lJ;clear h kG hx hL c01 c12 lM lW e1 e2 lD lZ kP kJ lJ hvb hk hw;go_enter Tryz.func76,Tryz.ntmps76;go_upto_region 1 with (first|refine cc rfl _ rfl rfl ?_;try rw [← mH.out]|refine ck rfl rfl ?_;try rw [← kW.out])
 try rw [← lI.out,← lG.out]
 obtain ⟨r0,-,-,-,-,r5,r6,-,-,-,r10,r11,rl,-⟩:=ay (mC.out W2 (av _ _));rw [HK.out] at r0;have ml:=bb (HI.out W2 (av _ _)).blk;go_wp2_with fail;refine (tr (HI.out W2 (av _ _)) x.h).mono ?_;rintro e W4 ⟨⟨rfl,lR⟩ | ⟨k,rfl,nC,hh⟩,rfl⟩
 ·obtain rfl:RR = (bw 120,none):=by rw [kH.out];unfold gj;rw [(HI.out W2 (av _ _)).ob.none_ lR]
  clear lR;go_wp2_with (first|refine cz rfl _ rfl (EVE.out 120) ?_ ?_;(focus (simp [Act.eval];done))|refine bu (b:=b4) (x:=zRs) (v:=zV) (y:=bw 120) (u:=zV) rfl _ _ rfl rfl rfl rfl (lF.out W2 (av _ _)) ?_;intro W6 h6 kF);refine bodyPost_ret (v:=.agg (rsc (bw 120) zV)) (results_cell_row (p:=4) (ty:=40) rfl _ _ b4 40 _ (0,0) _ rfl h6 Tryz.underlying40 rfl dq) rfl ?_;refine ⟨none,0,0,rfl,RE.nil ucl 1 _ none 0,fun _ hk=>(cw hk).elim,?_,sp,vo,L,gb,gm,gs,(((HI.out W2 (av [] W2))).new (B:=w.heap.size) kR.out kF (fun y hy=>by obtain rfl:=aa hy;have:=HB.out;omega)),Nat.le_refl _,fun y hy=>.inl ⟨hy,?_⟩⟩
  ·exact CP.of ((((kS.out.stay (av [] W2)).up [b4]).and_ kF)) (fun y hy=>.inr (by obtain rfl:=aa hy;have:=HB.out;omega))
  ·have h1:=kR.out y hy;have h2:=(kS.out.stay (av [] W2)).size;have h3:=kF.size;omega
 obtain ⟨B,hB⟩:∃B,B = L[k].l:=⟨_,rfl⟩;obtain ⟨u,hu⟩:∃u,u = L[k].v:=⟨_,rfl⟩;obtain ⟨zh,xS⟩:∃zh:Nat,zh = L[k].h:=⟨_,rfl⟩;have rW:M.ob (x.h:Int) = some B:=by have:=(HI.out W2 (av _ _)).ob.at_ nC;rw [hh] at this;rw [this,hB]
 have xZ:=bk rW;have mZ:=bk (show RR = (if x.k = 11 then (bw 0,some { M with ob:=upd M.ob x.h none }) else if (B.length:Int) < x.a+max x.s x.l.length then (bw 2,none) else if x.k = 12 then (⟨0,0,(B.drop x.a.toNat).take x.s.toNat⟩,none) else (bw 0,some { M with ob:=upd M.ob x.h (some (di B x.a.toNat x.l)) })) by rw [kH.out];unfold gj;rw [rW]);have uE:=(HI.out W2 (av _ _)).ob.bt L[k] (ao nC);rw [← hB,← hu] at uE;obtain ⟨mP,yG,AN⟩:=uE;obtain ⟨Au,cu,rfl⟩:∃A c,u = .slice A B.length c:=SE.form mP;have sE:=bk (fun W (hc:Chg [] W2 W)=>SE.stay mP hc);have zN:=bk yG;have rK:=(HI.out W2 (av _ _)).ob.sl.re;have q:=WB.voc (HI.out W2 (av _ _)).blk;have DF:=bk (SE.max (HI.out W2 (av _ _)).ob.sl);obtain ⟨A,c,sL⟩:=SE.form (HI.out W2 (av _ _)).ob.sl;rw [sL] at rK q;obtain ⟨g,off,rfl⟩:=RE.addr rK (show 0 < L.length by omega);have uF:=fG rK nC;rw [← hu,← xS] at uF;have sF:=bk sL;have Fo:=bk rK;have BK:=bk (ai hB (ai hu (ai xS hh)));have i0:(0:Int)≤(k:Int):=by omega
 have i1:(k:Int) < (L.length:Int):=by omega
 have n0:decide ((k:Int) < 0) = false:=ac (by omega);have oT:=bk nC;clear hB hu xS hh rW mP yG AN sL rK;go_upto_region 5 with (first|refine em (ty:=92) (ad:=⟨g,off+k * 2,none⟩) (v:=.agg #[.int .u64 zh,.slice Au B.length cu]) rfl _ rfl rfl uF ?_|refine ng rfl rfl ?_;intro W3 h3 kM;have H3:=bk h3;have kL:=bk kM;clear h3 kM|refine nh (b:=W2.heap.size) (h':=zh) (u:=.slice Au B.length cu) rfl _ _ rfl rfl rfl rfl H3.out ?_;intro W4 h4 kZ;have H4:=bk h4;have lA:=bk (show Chg [] W2 W4 from kL.out.trans kZ (fun y hy=>.inr (by obtain rfl:=aa hy;exact Nat.le_refl _)));clear h4 kZ)
 clear uF r0 r5 r6 r10 r11 rl q ml H3;obtain ⟨r0,-,-,-,-,r5,r6,-,-,-,-,r11,rl,-⟩:=ay (mC.out W4 lA.out);rw [HK.out] at r0;have q:=WB.voc (HI.out W4 lA.out).blk;rw [sF.out] at q;have ml:=bb (HI.out W4 lA.out).blk;have o1:W4.cell? ⟨W2.heap.size,1,none⟩ = some (.slice Au B.length cu):=by simpa using Blk.cell H4.out 1
 have ol:=bb H4.out;obtain ⟨A0,Bv⟩:∃A0:Nat,x.a = A0:=⟨x.a.toNat,by have:=nY.out;omega⟩;obtain ⟨S0,AB⟩:∃S0:Nat,x.s = S0:=⟨x.s.toNat,by have:=nY.out;omega⟩;have yR:=bk (ai Bv AB);have xR:x.l = []:=nY.out.2.2.1;rw [Bv] at r5;rw [AB] at r6;obtain ⟨T0,GZ⟩:∃T0,T0 = A0+S0:=⟨_,rfl⟩;have xD:=bk GZ;have lH:A0≤128∧1≤S0∧S0≤128:=by have:=nY.out;omega
 have sN:=bk lH;obtain ⟨CH,xQ⟩:=(so (by omega) (by omega):wrap64 ((A0:Int)+(S0:Int)) = (T0:Int)∧IntKind.i64.wrap ((A0:Int)+(S0:Int)) = (T0:Int));have HXL:=bk xR;clear Bv AB xR GZ lH;go_upto_region 11 with (fail)
 by_cases hbig:B.length < T0
 ·have d1:decide ((B.length:Int) < (T0:Int)) = true:=ae (by omega);have d1':decide (B.length < T0) = true:=ae hbig;have Do:=bk hbig;clear hbig;obtain rfl:RR = (bw 2,none):=by rw [mZ.out,ag (by rw [HK.out];decide),ah (by have h1:=Do.out;have h2:=yR.out;have h3:=xD.out;rw [HXL.out];simp;omega)]
  go_wp2_with (first|refine cz rfl _ rfl (EVE.out 2) ?_ ?_;(focus (simp [Act.eval];done))|refine bu (b:=b4) (x:=zRs) (v:=zV) (y:=bw 2) (u:=zV) rfl _ _ rfl rfl rfl rfl (lF.out W4 lA.out) ?_;intro W6 h6 kF);refine bodyPost_ret (v:=.agg (rsc (bw 2) zV)) (results_cell_row (p:=4) (ty:=40) rfl _ _ b4 40 _ (0,0) _ rfl h6 Tryz.underlying40 rfl dq) rfl ?_;refine ⟨none,0,0,rfl,RE.nil ucl 1 _ none 0,fun _ hk=>(cw hk).elim,?_,sp,vo,L,gb,gm,gs,(((HI.out W4 (lA.out))).new (B:=w.heap.size) kR.out kF (fun y hy=>by obtain rfl:=aa hy;have:=HB.out;omega)),Nat.le_refl _,fun y hy=>.inl ⟨hy,?_⟩⟩
  ·exact CP.of ((((kS.out.stay (lA.out)).up [b4]).and_ kF)) (fun y hy=>.inr (by obtain rfl:=aa hy;have:=HB.out;omega))
  ·have h1:=kR.out y hy;have h2:=(kS.out.stay (lA.out)).size;have h3:=kF.size;omega
 ·have d1:decide ((B.length:Int) < (T0:Int)) = false:=ac (by omega);have d1':decide (B.length < T0) = false:=ac hbig;have mP:=sE.out W4 lA.out;obtain ⟨gu,offu,rfl⟩:=SE.addr mP (show 0 < B.length by have h1:=sN.out;have h2:=xD.out;omega);have By:B.length≤cu:=by obtain ⟨-,A9,c9,e9,h9,-⟩:=mP.re;injection e9 with _ _ e9;omega
  have nck:¬ cu = A0:=by have h1:=sN.out;have h2:=xD.out;omega
  have nck':¬ A0 = cu:=fun e=>nck e.symm;have k1:A0≤T0:=by have:=xD.out;omega
  have k2:T0≤cu:=by omega
  have k3:A0≤cu:=by omega
  have k1':(A0:Int)≤(T0:Int):=by omega
  have k2':(T0:Int)≤(cu:Int):=by omega
  have k3':(A0:Int)≤(cu:Int):=by omega
  obtain ⟨LL,hLL⟩:∃LL,LL = (B.drop A0).take S0:=⟨_,rfl⟩;have kQ:LL.length = T0 - A0:=by rw [hLL,List.length_take,List.length_drop];have h1:=sN.out;have h2:=xD.out;omega
  have hll0:LL.length≤128:=by have h1:=sN.out;have h2:=xD.out;omega
  have hrd:RE ucl 1 W4 (.slice (some ⟨gu,offu+A0,none⟩) (T0 - A0) (cu - A0)) LL:=by
   have h1:=RE.drop_ gk mP.re (k:=A0) (by have h1:=sN.out;have h2:=xD.out;omega);rw [Nat.mul_one] at h1;have h2:=RE.take_ gk h1 (k:=S0) (by rw [List.length_drop];have h2:=xD.out;omega);rw [hLL,show T0 - A0 = S0 by have h2:=xD.out;omega];exact h2
  obtain rfl:RR = (⟨0,0,LL⟩,none):=by
   rw [mZ.out,ag (by rw [HK.out];decide),ag (by have h1:=xD.out;have h2:=yR.out;rw [HXL.out];simp;omega),ah HK.out,hLL];have h2:=yR.out;rw [h2.1,h2.2];rfl
  have HS0:=bk (pd W4);have nP:Chg [] W4 (W4.alloc (.cells #[] 5)):=(av [] W4).alloc _;have vW:=bk (RE.stay hrd nP);have pQ:=bk nP;have xX:=bk (show ([]:List Nat).length+LL.length≤1000000 by simp;omega);have lX:=bk kQ;have EVL:=bk (fun A n c=>br_l A n c LL);clear hbig mP By hLL kQ hll0 hrd nP;go_wp2_with (first|at_builtin;refine md rfl _ _ rfl (.slice (some ⟨W4.heap.size,0,none⟩) 0 0) (.slice (some ⟨gu,offu+A0,none⟩) (T0 - A0) (cu - A0)) rfl rfl (l:=[]) (m:=LL) HS0.out vW.out xX.out ?_;intro A9 n9 c9 W9 nQ mY lC oF;have HS9:=bk mY;have HG9:=bk oF;have mM:=bk (show Chg [] W4 W9 from pQ.out.trans lC (fun y hy=>.inr (by rw [fd] at hy;obtain rfl:=aa hy;exact Nat.le_refl _)));clear nQ mY lC oF|refine cz rfl _ rfl (EVL.out A9 n9 c9) ?_ ?_;(focus (simp [Act.eval,Act.put];done))|refine bu (b:=b4) (x:=zRs) (v:=zV) (y:=⟨0,0,LL⟩) (u:=.slice A9 n9 c9) rfl _ _ rfl rfl rfl rfl (lF.out W9 (lA.out.stay mM.out)) ?_;intro W6 h6 kF);refine bodyPost_ret (v:=.agg (rsc ⟨0,0,LL⟩ (.slice A9 n9 c9))) (results_cell_row (p:=4) (ty:=40) rfl _ _ b4 40 _ (0,0) _ rfl h6 Tryz.underlying40 rfl dq) rfl ?_;have oF:∀i∈own (.slice A9 n9 c9),W4.heap.size≤i:=fun i hi=>by
   rcases HG9.out i hi with h1 | h1
   ·rw [fd] at h1;obtain rfl:=aa h1;exact Nat.le_refl _
   ·exact au pQ.out.size h1
  have FR:=lA.out.size;have Dh:=HB.out;have mY:SB W9 (.slice A9 n9 c9) LL:=HS9.out;refine ⟨A9,n9,c9,rfl,(SE.chg mY kF (fun i hi rT=>by obtain rfl:=aa rT;have:=oF _ hi;omega)).re,fun i hi=>by have:=oF i hi;omega,?_,sp,vo,L,gb,gm,gs,(((HI.out W9 (lA.out.stay mM.out))).new (B:=w.heap.size) kR.out kF (fun y hy=>by obtain rfl:=aa hy;have:=HB.out;omega)),Nat.le_refl _,fun y hy=>.inl ⟨hy,?_⟩⟩
  ·exact CP.of ((((kS.out.stay (lA.out.stay mM.out)).up [b4]).and_ kF)) (fun y hy=>.inr (by obtain rfl:=aa hy;have:=HB.out;omega))
  ·have h1:=kR.out y hy;have h2:=(kS.out.stay (lA.out.stay mM.out)).size;have h3:=kF.size;omega
theorem bL (h:WIn w m M sp vo ve L E gb gm gs) (kG:∀k,FW' M m vo ve L gb gm k→k < w.heap.size)
  {x:Cl} (hx:x.Ok) (hL:L.length≤500000) (hk:x.k = 13) (hw:dr M.c x = false) (v:Value) (hv:v.oneCell' = true) (hvb:RB w v x.l) (hdj:x.l≠[]→∀k∈own v,¬ FW' M m vo ve L gb gm k) :
  Calls Tryz.prog 76 #[.pointer (some ⟨m,0,none⟩),.agg (clc x v)] w fun e w'=>DoR w w' m M vo ve L E gb gm (gj M x) e:=by
 obtain ⟨W1,kP⟩:∃W1,W1 = w.alloc (.cells (clc x v) 47):=⟨_,rfl⟩;obtain ⟨W2,kJ⟩:∃W2,W2 = W1.alloc (.cells (rsc zRs zV) 40):=⟨_,rfl⟩;have c01:Chg [] w W1:=by rw [kP];exact (av [] w).alloc _
 have c12:Chg [] W1 W2:=by rw [kJ];exact (av [] W1).alloc _
 have lM:KB W2 w.heap.size x v:=bh (by rw [kP];exact ax w _ _) c12;have lW:XB W2 W1.heap.size zRs zV:=by rw [kJ];exact ax W1 _ _
 have e1:W1.heap.size = w.heap.size+1:=by rw [kP];exact af _ _
 have e2:W2.heap.size = w.heap.size+2:=by rw [kJ,af];omega
 obtain ⟨b3,lD⟩:∃y,y = w.heap.size:=⟨_,rfl⟩;obtain ⟨b4,lZ⟩:∃y,y = W1.heap.size:=⟨_,rfl⟩;rw [← lD] at lM;rw [← lZ] at lW;have HI:=bk (fun W (hc:Chg [] W2 W)=>h.stay ((c01.stay c12).stay hc));have mC:=bk (fun W (hc:Chg [] W2 W)=>(bh lM hc:KB W b3 x v));have lF:=bk (fun W (hc:Chg [] W2 W)=>(bf lW hc:XB W b4 zRs zV));have kS:=bk (c01.stay c12);have mH:=bk kP;have kW:=bk kJ;have HB:=bk (show b3 = w.heap.size∧b4 = w.heap.size+1∧W2.heap.size = w.heap.size+2 by omega);have lI:=bk lD;have lG:=bk lZ;have kR:=bk kG;have HK:=bk hk;have oX:=bk hx;have HL:=bk hL;have HV:=bk (fun W (hc:Chg [] W2 W)=>RE.stay hvb ((c01.stay c12).stay hc));have EV0:=bk br_0;have EVE:=bk (fun e=>br_e e);have nY:=bk (bH hw hk);have Gh:=bk (hdj (fun e=>by have h:=(bH hw hk).2.2.2.1;rw [e] at h;simp at h));obtain ⟨RR,lJ⟩:∃R,R = gj M x:=⟨_,rfl⟩;rw [← lJ];have kH:=bk lJ;clear h kG hx hL c01 c12 lM lW e1 e2 lD lZ kP kJ lJ hvb hk hw hdj;go_enter Tryz.func76,Tryz.ntmps76;go_upto_region 1 with (first|refine cc rfl _ rfl rfl ?_;try rw [← mH.out]|refine ck rfl rfl ?_;try rw [← kW.out])
 try rw [← lI.out,← lG.out]
 obtain ⟨r0,-,-,-,-,r5,r6,-,-,-,r10,r11,rl,-⟩:=ay (mC.out W2 (av _ _));rw [HK.out] at r0;have ml:=bb (HI.out W2 (av _ _)).blk;go_wp2_with fail;refine (tr (HI.out W2 (av _ _)) x.h).mono ?_;rintro e W4 ⟨⟨rfl,lR⟩ | ⟨k,rfl,nC,hh⟩,rfl⟩
 ·obtain rfl:RR = (bw 120,none):=by rw [kH.out];unfold gj;rw [(HI.out W2 (av _ _)).ob.none_ lR]
  clear lR;go_wp2_with (first|refine cz rfl _ rfl (EVE.out 120) ?_ ?_;(focus (simp [Act.eval];done))|refine bu (b:=b4) (x:=zRs) (v:=zV) (y:=bw 120) (u:=zV) rfl _ _ rfl rfl rfl rfl (lF.out W2 (av _ _)) ?_;intro W6 h6 kF);refine bodyPost_ret (v:=.agg (rsc (bw 120) zV)) (results_cell_row (p:=4) (ty:=40) rfl _ _ b4 40 _ (0,0) _ rfl h6 Tryz.underlying40 rfl dq) rfl ?_;refine ⟨none,0,0,rfl,RE.nil ucl 1 _ none 0,fun _ hk=>(cw hk).elim,?_,sp,vo,L,gb,gm,gs,(((HI.out W2 (av [] W2))).new (B:=w.heap.size) kR.out kF (fun y hy=>by obtain rfl:=aa hy;have:=HB.out;omega)),Nat.le_refl _,fun y hy=>.inl ⟨hy,?_⟩⟩
  ·exact CP.of ((((kS.out.stay (av [] W2)).up [b4]).and_ kF)) (fun y hy=>.inr (by obtain rfl:=aa hy;have:=HB.out;omega))
  ·have h1:=kR.out y hy;have h2:=(kS.out.stay (av [] W2)).size;have h3:=kF.size;omega
 obtain ⟨B,hB⟩:∃B,B = L[k].l:=⟨_,rfl⟩;obtain ⟨u,hu⟩:∃u,u = L[k].v:=⟨_,rfl⟩;obtain ⟨zh,xS⟩:∃zh:Nat,zh = L[k].h:=⟨_,rfl⟩;have rW:M.ob (x.h:Int) = some B:=by have:=(HI.out W2 (av _ _)).ob.at_ nC;rw [hh] at this;rw [this,hB]
 have xZ:=bk rW;have mZ:=bk (show RR = (if x.k = 11 then (bw 0,some { M with ob:=upd M.ob x.h none }) else if (B.length:Int) < x.a+max x.s x.l.length then (bw 2,none) else if x.k = 12 then (⟨0,0,(B.drop x.a.toNat).take x.s.toNat⟩,none) else (bw 0,some { M with ob:=upd M.ob x.h (some (di B x.a.toNat x.l)) })) by rw [kH.out];unfold gj;rw [rW]);have uE:=(HI.out W2 (av _ _)).ob.bt L[k] (ao nC);rw [← hB,← hu] at uE;obtain ⟨mP,yG,AN⟩:=uE;obtain ⟨Au,cu,rfl⟩:∃A c,u = .slice A B.length c:=SE.form mP;have sE:=bk (fun W (hc:Chg [] W2 W)=>SE.stay mP hc);have zN:=bk yG;have rK:=(HI.out W2 (av _ _)).ob.sl.re;have q:=WB.voc (HI.out W2 (av _ _)).blk;have DF:=bk (SE.max (HI.out W2 (av _ _)).ob.sl);obtain ⟨A,c,sL⟩:=SE.form (HI.out W2 (av _ _)).ob.sl;rw [sL] at rK q;obtain ⟨g,off,rfl⟩:=RE.addr rK (show 0 < L.length by omega);have uF:=fG rK nC;rw [← hu,← xS] at uF;have sF:=bk sL;have Fo:=bk rK;have BK:=bk (ai hB (ai hu (ai xS hh)));have i0:(0:Int)≤(k:Int):=by omega
 have i1:(k:Int) < (L.length:Int):=by omega
 have n0:decide ((k:Int) < 0) = false:=ac (by omega);have oT:=bk nC;clear hB hu xS hh rW mP yG AN sL rK;go_upto_region 5 with (first|refine em (ty:=92) (ad:=⟨g,off+k * 2,none⟩) (v:=.agg #[.int .u64 zh,.slice Au B.length cu]) rfl _ rfl rfl uF ?_|refine ng rfl rfl ?_;intro W3 h3 kM;have H3:=bk h3;have kL:=bk kM;clear h3 kM|refine nh (b:=W2.heap.size) (h':=zh) (u:=.slice Au B.length cu) rfl _ _ rfl rfl rfl rfl H3.out ?_;intro W4 h4 kZ;have H4:=bk h4;have lA:=bk (show Chg [] W2 W4 from kL.out.trans kZ (fun y hy=>.inr (by obtain rfl:=aa hy;exact Nat.le_refl _)));clear h4 kZ)
 clear uF r0 r5 r6 r10 r11 rl q ml H3;obtain ⟨r0,-,-,-,-,r5,r6,-,-,-,-,r11,rl,-⟩:=ay (mC.out W4 lA.out);rw [HK.out] at r0;have q:=WB.voc (HI.out W4 lA.out).blk;rw [sF.out] at q;have ml:=bb (HI.out W4 lA.out).blk;have o1:W4.cell? ⟨W2.heap.size,1,none⟩ = some (.slice Au B.length cu):=by simpa using Blk.cell H4.out 1
 have ol:=bb H4.out;obtain ⟨A0,Bv⟩:∃A0:Nat,x.a = A0:=⟨x.a.toNat,by have:=nY.out;omega⟩;obtain ⟨S0,AB⟩:∃S0:Nat,S0 = x.l.length:=⟨_,rfl⟩;have Bi:x.s = 0:=nY.out.2.2.1;have yR:=bk (ai Bv (ai AB Bi));rw [Bv] at r5;obtain ⟨T0,GZ⟩:∃T0,T0 = A0+S0:=⟨_,rfl⟩;have xD:=bk GZ;have lH:A0≤128∧1≤S0∧S0≤128:=by have:=nY.out;omega
 have sN:=bk lH;have GO:=bk (so (by omega) (by omega):wrap64 ((A0:Int)+(S0:Int)) = (T0:Int)∧IntKind.i64.wrap ((A0:Int)+(S0:Int)) = (T0:Int));obtain ⟨Av,cv,zI⟩:=RE.form (HV.out W4 lA.out);rw [← AB] at zI;have Bt:=bk zI;rw [zI] at r11;rw [Bi] at r6;clear Bv AB Bi GZ lH zI;go_upto_region 11 with (fail)
 by_cases hbig:B.length < T0
 ·have d1:decide ((B.length:Int) < (T0:Int)) = true:=ae (by omega);have d1':decide (B.length < T0) = true:=ae hbig;have Do:=bk hbig;clear hbig;obtain rfl:RR = (bw 2,none):=by rw [mZ.out,ag (by rw [HK.out];decide),ah (by have h1:=Do.out;have h2:=yR.out;have h3:=xD.out;omega)]
  obtain ⟨CH,xQ⟩:=GO.out;go_wp2_with (first|refine cz rfl _ rfl (EVE.out 2) ?_ ?_;(focus (simp [Act.eval];done))|refine bu (b:=b4) (x:=zRs) (v:=zV) (y:=bw 2) (u:=zV) rfl _ _ rfl rfl rfl rfl (lF.out W4 lA.out) ?_;intro W6 h6 kF);refine bodyPost_ret (v:=.agg (rsc (bw 2) zV)) (results_cell_row (p:=4) (ty:=40) rfl _ _ b4 40 _ (0,0) _ rfl h6 Tryz.underlying40 rfl dq) rfl ?_;refine ⟨none,0,0,rfl,RE.nil ucl 1 _ none 0,fun _ hk=>(cw hk).elim,?_,sp,vo,L,gb,gm,gs,(((HI.out W4 (lA.out))).new (B:=w.heap.size) kR.out kF (fun y hy=>by obtain rfl:=aa hy;have:=HB.out;omega)),Nat.le_refl _,fun y hy=>.inl ⟨hy,?_⟩⟩
  ·exact CP.of ((((kS.out.stay (lA.out)).up [b4]).and_ kF)) (fun y hy=>.inr (by obtain rfl:=aa hy;have:=HB.out;omega))
  ·have h1:=kR.out y hy;have h2:=(kS.out.stay (lA.out)).size;have h3:=kF.size;omega
 ·have d1:decide ((B.length:Int) < (T0:Int)) = false:=ac (by omega);have d1':decide (B.length < T0) = false:=ac hbig;have GM:=bk (show A0+S0≤B.length by have h2:=xD.out;omega);obtain ⟨NB,hNB⟩:∃NB,NB = di B A0 x.l:=⟨_,rfl⟩;obtain rfl:RR = (bw 0,some { M with ob:=upd M.ob x.h (some NB) }):=by
   rw [mZ.out,ag (by rw [HK.out];decide),ag (by have h1:=xD.out;have h2:=yR.out;omega),ag (by rw [HK.out];decide),hNB,yR.out.1];rfl
  have pR:=bk hNB;obtain ⟨gu,offu,rfl⟩:=SE.addr (sE.out W4 lA.out) (show 0 < B.length by have h1:=sN.out;have h2:=GM.out;omega);have HGU:=bk (show FW' M m vo ve L gb gm gu from .inr (.inr (.inr (.inl ⟨L[k]'nC,ao nC,by rw [← BK.out.2.1];exact fd ▸ List.mem_singleton.2 rfl⟩))));have hgu2:gu < w.heap.size:=kR.out gu HGU.out;have Fd:=bk (show b3≠gu∧b4≠gu by have:=HB.out;omega);have HGV:=bk (show gu∉own v from fun hk=>Gh.out gu hk HGU.out);clear hbig hNB hgu2;obtain ⟨CH,xQ⟩:=GO.out;go_upto_region 16 with (fail)
  clear CH xQ r0 r5 r6 r11 rl q ml o1 ol;go_loopw [8] (fun iv wr=>∃t:Nat,t≤S0∧iv = .int .i64 t∧Hid (WIn wr m { M with ob:=upd M.ob (x.h:Int) (some (di B A0 (x.l.take t))) } sp vo ve (L.set k ⟨x.h,di B A0 (x.l.take t),.slice (some ⟨gu,offu,none⟩) B.length cu⟩) E gb gm gs)∧Hid (Chg [gu] W4 wr)) (fun iv _=>S0 - (intOf iv).toNat)
  case atStart =>
   refine ⟨0,by omega,rfl,bk ?_,bk (av _ _)⟩;have h1:=HI.out W4 lA.out;have e1:L.set k ⟨x.h,di B A0 (x.l.take 0),.slice (some ⟨gu,offu,none⟩) B.length cu⟩ = L:=by
    rw [vx,BK.out.2.1,← BK.out.2.2.2];have e2:(⟨(L[k]'nC).h,B,(L[k]'nC).v⟩:Ob) = L[k]'nC:=(by rw [BK.out.1]);rw [e2];exact List.set_getElem_self _
   have e3:upd M.ob (x.h:Int) (some (di B A0 (x.l.take 0))) = M.ob:=by
    rw [vx,← xZ.out];exact eF _ _
   rw [e1,e3];exact h1
  case round =>
   obtain ⟨t,ht,rfl,oW,lN⟩:=hrel;by_cases kG:t < S0
   ·have nS:=bk kG;have dl:decide ((t:Int) < (S0:Int)) = true:=ae (by omega);have dl':decide (t < S0) = true:=ae kG;have i0':(0:Int)≤(t:Int):=(by omega);have i1':(t:Int) < (S0:Int):=(by omega);go_upto_region 18 with (fail)
    refine rgt [0,0,0,1,0,0,0,1,0,1,0,0,0,1,0,0,1,0,3] [none,none,none,none,none,none,none,none,none,none,none,none,none,none,none,none,none,none,none] (fun _=>True) ?_;have pB:Chg [] wr wr.drew:=(av [] wr).drew;have Fp:=bk (oW.out.stay pB);have kU:=bk (lN.out.stay pB);generalize wr.drew = W5 at Fp kU ⊢;have htl:t < x.l.length:=(by have:=yR.out;omega);obtain ⟨Pp,xF⟩:∃P,P = A0+t:=⟨_,rfl⟩;have HPP:=bk xF;have HWW:=bk (so (by have:=sN.out;omega) (by omega):wrap64 ((A0:Int)+(t:Int)) = (Pp:Int)∧IntKind.i64.wrap ((A0:Int)+(t:Int)) = (Pp:Int));have vY:=bk (so (by have:=sN.out;omega) rfl:wrap64 ((t:Int)+1) = (t:Int)+1∧IntKind.i64.wrap ((t:Int)+1) = (t:Int)+1);have p0:(0:Int)≤(Pp:Int):=(by omega);have p1:(Pp:Int) < (B.length:Int):=(by have:=GM.out;omega);have p1':Pp < B.length:=(by omega);have vA:KB W5 b3 x v:=aw (mC.out W4 lA.out) kU.out (by simp;exact Fd.out.1);obtain ⟨-,-,-,-,-,s5,-,-,-,-,-,s11,sl,-⟩:=ay vA;rw [yR.out.1] at s5;rw [Bt.out] at s11;have hv5:RE ucl 1 W5 v x.l:=RE.chg (HV.out W4 lA.out) kU.out (fun y hy Bj=>by obtain rfl:=aa Bj;exact HGV.out hy);rw [Bt.out] at hv5;obtain ⟨vg,vof,rfl⟩:=RE.addr hv5 (by omega);obtain ⟨y,hy⟩:∃y:Nat,y = x.l[t]'htl:=⟨_,rfl⟩;have Em:W5.cell? ⟨vg,vof+t,none⟩ = some (.int .u8 (y:Nat)):=by
     have h1:=RE.cell (size:=1) (enc:=ucl) (fun _=>rfl) hv5 (k:=t) (j:=0) htl Nat.zero_lt_one rfl;rw [Nat.mul_one,Nat.add_zero] at h1;rw [hy];exact h1
    have HY:=bk hy;have hkL:k < (L.set k ⟨x.h,di B A0 (x.l.take t),.slice (some ⟨gu,offu,none⟩) B.length cu⟩).length:=(by rw [List.length_set];exact oT.out);have xK:(L.set k ⟨x.h,di B A0 (x.l.take t),.slice (some ⟨gu,offu,none⟩) B.length cu⟩)[k] = ⟨x.h,di B A0 (x.l.take t),.slice (some ⟨gu,offu,none⟩) B.length cu⟩:=List.getElem_set_self _;have Ff:=bk (ai hkL xK);have hq5:=WB.voc Fp.out.blk;rw [sF.out] at hq5;have ml:=bb Fp.out.blk;have EH:=Fp.out.ob.sl.re;rw [sF.out] at EH;have hqo:W5.cell? ⟨g,off+k * 2+1,none⟩ = some (.slice (some ⟨gu,offu,none⟩) B.length cu):=RE.cell mj EH hkL (j:=1) (u:=.slice (some ⟨gu,offu,none⟩) B.length cu) (by omega) (by rw [xK];rfl);have tE:(di B A0 (x.l.take t)).length = B.length:=(by unfold di;simp;have h1:=GM.out;have h2:=yR.out;omega);have uE:=(Fp.out.ob.bt _ (ao hkL)).1;rw [xK] at uE;simp only at uE;obtain ⟨yo,hyo⟩:∃yo:Nat,W5.cell? ⟨gu,offu+Pp,none⟩ = some (.int .u8 (yo:Nat)):=by
     have h1:=RE.cell (size:=1) (enc:=ucl) (fun _=>rfl) uE.re (k:=Pp) (j:=0) (by rw [tE];exact p1') Nat.zero_lt_one rfl;rw [Nat.mul_one,Nat.add_zero] at h1;exact ⟨_,h1⟩
    have xI:=SE.frozen uE (offu+Pp);have gl:=SE.own_lt uE gu (fd ▸ List.mem_singleton.2 rfl);have HSL:=bk tE;clear kG ht xF vA hv5 hy xK EH tE uE oW lN pB p1';obtain ⟨Bc,hw5'⟩:=HWW.out;obtain ⟨hi5,hi5'⟩:=vY.out;go_wp2_with (first|refine cdA fun K U=>?_|refine bn fun K U=>?_;go_simp|refine bq ?_);clear Bc hw5' hi5 hi5';go_roundw
    case rel =>
     refine ⟨t+1,nS.out,by go_num,bk ?_,bk (kU.out.setCell (p:=⟨gu,offu+Pp,none⟩) (.inl (by simp)) _)⟩;have h1:=Fp.out.poke Ff.out.1 (g:=gu) (off:=offu) (n:=B.length) (c:=cu) (j:=Pp) (y:=y) (by rw [Ff.out.2]) (by rw [Ff.out.2];show Pp < (di B A0 (x.l.take t)).length;rw [HSL.out];have h1:=HPP.out;have h2:=GM.out;have h3:=nS.out;omega) (by rw [HY.out];exact oX.out.l _ (ao _));have e0:(di B A0 (x.l.take t)).set Pp y = di B A0 (x.l.take (t+1)):=by
      rw [HY.out,HPP.out];exact dY (by have h1:=GM.out;have h2:=yR.out;omega) _
     rw [Ff.out.2] at h1;simp only [List.set_set] at h1;rw [e0] at h1;have e1:upd (upd M.ob (x.h:Int) (some (di B A0 (x.l.take t)))) (x.h:Int) (some (di B A0 (x.l.take (t+1)))) = upd M.ob (x.h:Int) (some (di B A0 (x.l.take (t+1)))):=by
      funext z;unfold upd;split <;> rfl
     rw [e1] at h1;exact h1
    case measure=>have:=nS.out;simp [intOf];omega
   ·obtain rfl:t = S0:=(by omega);have dl:decide ((t:Int) < (t:Int)) = false:=ac (by omega);have HWF:=bk (show WIn wr m { M with ob:=upd M.ob (x.h:Int) (some NB) } sp vo ve (L.set k ⟨x.h,NB,.slice (some ⟨gu,offu,none⟩) B.length cu⟩) E gb gm gs from by
     have h1:=oW.out
     rw [List.take_of_length_le (by have:=yR.out;omega),← pR.out] at h1
     exact h1)
    have Fa:=bk lN.out;clear kG ht oW lN;go_wp2_with (first|refine cz rfl _ rfl EV0.out ?_ ?_;(focus (simp [Act.eval];done))|refine bu (b:=b4) (x:=zRs) (v:=zV) (y:=bw 0) (u:=zV) rfl _ _ rfl rfl rfl rfl (aw (lF.out W4 lA.out) Fa.out (by simp;exact Fd.out.2)) ?_;intro W6 h6 kF);refine bodyPost_ret (v:=.agg (rsc (bw 0) zV)) (results_cell_row (p:=4) (ty:=40) rfl _ _ b4 40 _ (0,0) _ rfl h6 Tryz.underlying40 rfl dq) rfl ?_;have mJ:Chg [gu] w wr:=((kS.out.stay lA.out).up [gu]).and_ Fa.out;have wN:∀y,FW' { M with ob:=upd M.ob (x.h:Int) (some NB) } m vo ve (L.set k ⟨x.h,NB,.slice (some ⟨gu,offu,none⟩) B.length cu⟩) gb gm y→FW' M m vo ve L gb gm y:=fun y hy=>by
     rcases hy with h | h | h | ⟨o,ho,h⟩ | h
     ·exact .inl h
     ·exact .inr (.inl h)
     ·exact .inr (.inr (.inl h))
     ·rcases List.mem_or_eq_of_mem_set ho with ho | ho
      ·exact .inr (.inr (.inr (.inl ⟨o,ho,h⟩)))
      ·refine .inr (.inr (.inr (.inl ⟨L[k]'nC,ao nC,?_⟩)));rw [ho] at h;rw [← BK.out.2.1];exact h
     ·exact .inr (.inr (.inr (.inr h)))
    refine ⟨none,0,0,rfl,RE.nil ucl 1 _ none 0,fun _ hk=>(cw hk).elim,?_,sp,vo,_,gb,gm,gs,HWF.out.new (B:=w.heap.size) (fun y hy=>kR.out y (wN y hy)) kF (fun y hy=>by obtain rfl:=aa hy;have:=HB.out;omega),?_,fun y hy=>.inl ⟨wN y hy,?_⟩⟩
    ·exact (CP.of mJ (fun y hy=>.inl (by obtain rfl:=aa hy;exact HGU.out)):CP (FW' M m vo ve L gb gm) w wr).trans (CP.of (F:=fun k=>k = b4) kF (fun y hy=>.inl (aa hy))) (fun y hy=>.inr (by have:=HB.out;omega))
    ·rw [List.length_set];exact Nat.le_refl _
    ·have h1:=kR.out y (wN y hy);have h2:=mJ.size;have h3:=kF.size;omega
def spz (v:Value):List Value:=List.replicate 1024 (Value.int .u8 0) ++ v :: (List.replicate 1024 (Value.bool false) ++ List.replicate 2050 (Value.int .u8 0))
def zSq:Sq:=⟨fun _=>0,fun _=>none,fun _=>false,fun _=>(0,0),0,0⟩
theorem spz_sq (b:Nat):(spz (.map (some b))).toArray = sqc (sqv zSq b):=by
 apply Array.ext_getElem?;intro j;rw [List.getElem?_toArray];by_cases hj:j < 4099
 ·rw [ug _ hj];unfold spz sqv zSq;by_cases h1:j < 1024
  ·rw [ah h1,List.getElem?_append_left (by rw [List.length_replicate];exact h1),List.getElem?_replicate,ah h1]
  ·rw [ag h1,List.getElem?_append_right (by rw [List.length_replicate];omega),List.length_replicate];by_cases h2:j = 1024
   ·subst h2;rfl
   ·rw [ag h2];obtain ⟨i,rfl⟩:∃i,j = 1025+i:=⟨j - 1025,by omega⟩;rw [show 1025+i - 1024 = i+1 by omega,List.getElem?_cons_succ];by_cases h3:i < 1024
    ·rw [ah (by omega),List.getElem?_append_left (by rw [List.length_replicate];exact h3),List.getElem?_replicate,ah h3]
    ·rw [ag (by omega),List.getElem?_append_right (by rw [List.length_replicate];omega),List.length_replicate,List.getElem?_replicate,ah (by omega)];by_cases h4:1025+i < 4097
     ·rw [ah h4];split <;> rfl
     ·rw [ag h4];split <;> rfl
 ·rw [List.getElem?_eq_none (by unfold spz;rw [List.length_append,List.length_cons,List.length_append,List.length_replicate,List.length_replicate,List.length_replicate];omega),Array.getElem?_eq_none (by rw [lz];omega)]
section
variable {ops:Array Oper} {rest:List Oper} {o:Oper} {a:Act} {w:World} {Q:Exit→Act→World→Prop}
theorem zm {s:Sq} {b:Nat} (hg:o.guard = none) (z:Operand) (ho:o.op = .box 100 z) (hx:a.eval z = .agg (sqc (sqv s b)))
  (h:∀w',QB w' w.heap.size s b→Chg [] w w'→w'.heap.size = w.heap.size+1→wpList Tryz.prog ops Q rest (a.put o.dst (.pointer (some ⟨w.heap.size,0,none⟩))) w'):wpList Tryz.prog ops Q (o :: rest) a w :=
 Great.wpList_runTo hg _ rfl _ _ (by unfold execOp;simp only [ho,hx,Sem.run_bind,Instr.box,newVar,newRow,run_newObj_alloc,Sem.run_pure,Result.andThen_ok,Value.cells]) (h _ (ax w _ _) ((av [] w).alloc _) (af _ _))
theorem zc100 (b:Nat):Tryz.zeroCells100.setIfInBounds 1024 (.map (some b)) = sqc (sqv zSq b):=by rw [← spz_sq];kernel_rfl
theorem yl {b:Nat} (hg:o.guard = none) (z:Operand) (ho:o.op = .box 100 z) (hx:a.eval z = .agg (Tryz.zeroCells100.setIfInBounds 1024 (.map (some b))))
  (h:∀w',QB w' w.heap.size zSq b→Chg [] w w'→w'.heap.size = w.heap.size+1→wpList Tryz.prog ops Q rest (a.put o.dst (.pointer (some ⟨w.heap.size,0,none⟩))) w'):wpList Tryz.prog ops Q (o :: rest) a w :=
 zm hg z ho (hx.trans (by rw [zc100])) h
theorem ru {t:TypeId} {k:IntKind} (hg:o.guard = none) (ho:o.op = .makeMap t none)
  (h:∀w',MapB w' w.heap.size k (fun _=>none)→Chg [] w w'→w'.heap.size = w.heap.size+1→wpList Tryz.prog ops Q rest (a.put o.dst (.map (some w.heap.size))) w'):wpList Tryz.prog ops Q (o :: rest) a w :=
 Great.wpList_runTo hg _ rfl _ _ (by unfold execOp;simp only [ho,Option.map_none,Sem.run_bind,run_makeMap,Sem.run_pure,Result.andThen_ok]) (h _ (MapB.new w k) ((av [] w).alloc _) (af _ _))
end
theorem RelP.zero:RelP jv zSq:=by refine ⟨fun q _=>rfl,fun a _ _=>?_,fun a v h=>(by cases h),fun _ _=>rfl,fun q _ v h=>(by cases h),rfl,rfl⟩;show 0 = zeroPg.getD (a % 256).toNat 0;unfold zeroPg;rw [List.getD_eq_getElem?_getD,List.getElem?_replicate];split <;> rfl
section
variable {w w':World} {m:Nat} {M:Mo} {sp:Nat→Option Nat} {vo ve:Value} {L:List Ob} {E:List Nat} {gb gm:Nat→Nat} {gs:Nat→Sq}
theorem WIn.spawn (h:WIn w m M sp vo ve L E gb gm gs) (kG:∀k,FW' M m vo ve L gb gm k→k < w.heap.size) {t:Nat} (ht:1≤t∧t≤8) {b bm:Nat} (hc:Chg [] w w') (hq:QB w' b zSq bm) (hm:MapB w' bm .i64 (byF zSq)) (hb:w.heap.size≤b) (wF:w.heap.size≤bm) :
  WIn (w'.setCell ⟨m,94+t,none⟩ (.pointer (some ⟨b,0,none⟩))) m { M with pr:=upd M.pr t (some jv) } (upN sp t (some b)) vo ve L E (upN gb t b) (upN gm t bm) (upN gs t zSq):=by
 have h2:=h.stay hc;have sX:=kG m (.inl rfl);have kI:Chg [m] w' (w'.setCell ⟨m,94+t,none⟩ (.pointer (some ⟨b,0,none⟩))):=(av [m] w').setCell (p:=⟨m,94+t,none⟩) (.inl (by simp)) _;have old:∀(i:Nat) q,upd M.pr t (some jv) i = some q→i≠t→M.pr i = some q:=fun i q rB kT=>by
  unfold upd at rB;rwa [ag (by omega)] at rB
 have glt:∀(i:Nat) q,M.pr i = some q→gb i < w.heap.size∧gm i < w.heap.size:=fun i q hi=>⟨kG _ (.inr (.inr (.inr (.inr ⟨i,q,hi,.inl rfl⟩)))),kG _ (.inr (.inr (.inr (.inr ⟨i,q,hi,.inr rfl⟩))))⟩;refine ⟨WB.set_sp h2.blk (by omega) (some b),h2.ob.chg kI (fun k hk=>?_) (fun o ho k hk=>?_),h2.ev.chg kI (fun k hk=>?_),fun i hi=>?_,fun z q hz=>?_,fun i q hi=>?_,fun i i' q q' hi rT kT=>?_⟩
 ·simp;exact fun e=>SE.not_blk h2.ob.sl h2.blk (by decide) (e ▸ hk)
 ·simp;exact fun e=>SE.not_blk (h2.ob.bt o ho).1 h2.blk (by decide) (e ▸ hk)
 ·simp;exact fun e=>SE.not_blk h2.ev.sl h2.blk (by decide) (e ▸ hk)
 ·show upN sp t (some b) i = (upd M.pr t (some jv) i).map fun _=>upN gb t b i;unfold upN upd;by_cases e:i = t
  ·rw [ah e,ah (show (i:Int) = t by omega)];show some b = some (if i = t then b else gb i);rw [ah e]
  ·rw [ag e,ag (show ¬ (i:Int) = t by omega),h.sp i hi];congr 1;funext _;rw [ag e]
 ·have Bk:upd M.pr t (some jv) z = some q:=hz;unfold upd at Bk;by_cases e:z = t
  ·omega
  ·rw [ag e] at Bk;exact h.rng z q Bk
 ·by_cases e:i = t
  ·subst e;have rT:upd M.pr i (some jv) i = some q:=hi;unfold upd at rT;rw [ah rfl] at rT;obtain rfl:=aq rT;rw [show upN gb i b i = b from ah rfl,show upN gm i bm i = bm from ah rfl,show upN gs i zSq i = zSq from ah rfl];exact ⟨aw hq kI (by simp;omega),hm.chg kI (by simp;omega),RelP.zero⟩
  ·have hp:=old i q hi e;obtain ⟨c1,c2,c3⟩:=h2.pr i q hp;rw [show upN gb t b i = gb i from ag e,show upN gm t bm i = gm i from ag e,show upN gs t zSq i = gs i from ag e];exact ⟨aw c1 kI (by simp;exact fun x=>Blk.ne_ h2.blk c1 (by decide) x.symm),c2.chg kI (by simp;exact fun x=>bj h2.blk c2 x.symm),c3⟩
 ·by_cases e:i = t
  ·have e':i'≠t:=fun x=>kT (e.trans x.symm);have hg:=glt i' q' (old i' q' rT e');rw [show upN gb t b i = b from ah e,show upN gm t bm i = bm from ah e,show upN gb t b i' = gb i' from ag e',show upN gm t bm i' = gm i' from ag e'];omega
  ·have hp:=old i q hi e;have hg:=glt i q hp;rw [show upN gb t b i = gb i from ag e,show upN gm t bm i = gm i from ag e];by_cases e':i' = t
   ·rw [show upN gb t b i' = b from ah e',show upN gm t bm i' = bm from ah e'];omega
   ·rw [show upN gb t b i' = gb i' from ag e',show upN gm t bm i' = gm i' from ag e'];exact h.ib i i' q q' hp (old i' q' rT e') kT
end
variable {t:Nat}
theorem jR (h1:1≤t) (h8:t≤8) (lR:∀j:Nat,1≤j→j < t→M.pr j≠none) (ht:M.pr t = none):pids.find? (fun p=>(M.pr p).isNone) = some (t:Int):=by
 have hl:pids.length = 8:=rfl;have hp:∀i (h:i < pids.length),pids[i] = ((i+1:Nat):Int):=by
  intro i h;have h':i < 8:=h
  match i,h' with
  | 0,_=>rfl
  | 1,_=>rfl
  | 2,_=>rfl
  | 3,_=>rfl
  | 4,_=>rfl
  | 5,_=>rfl
  | 6,_=>rfl
  | 7,_=>rfl
 rw [List.find?_eq_some_iff_getElem];refine ⟨by rw [ht];rfl,t - 1,(show t - 1 < pids.length by rw [hl];omega),?_,fun j hj=>?_⟩
 ·rw [hp (t - 1) (by rw [hl];omega),show t - 1+1 = t by omega]
 ·rw [hp j (by rw [hl];omega)];have:=lR (j+1) (by omega) (by omega);cases h:M.pr ((j+1:Nat):Int) with
  | none=>exact absurd h this
  | some p=>rfl
theorem jS (lR:∀j:Nat,1≤j→j < 9→M.pr j≠none):pids.find? (fun p=>(M.pr p).isNone) = none:=by
 rw [List.find?_eq_none];intro z hz;have:∃j:Nat,1≤j∧j < 9∧z = j:=by unfold pids at hz;simp at hz;exact ⟨z.toNat,by omega,by omega,by omega⟩
 obtain ⟨j,a1,a2,rfl⟩:=this;cases h:M.pr (j:Int) with
 | none=>exact absurd h (lR j a1 a2)
 | some p=>simp
def doA (M:Mo) (x:Cl):Rs × Option Mo:=if x.k = 10 then (bw 0,none) else cj M x 0
variable {R:Rs × Option Mo}
theorem DoR.fin {W w1 w2:World} {e:Ending} (kG:∀k,FW' M m vo ve L gb gm k→k < w.heap.size) (nG:Chg [] w W) (hD:DoR W w1 m M vo ve L E gb gm R e) {b:Nat} (hc:Chg [b] w1 w2) (hb:w.heap.size≤b) (lV:b < W.heap.size):DoR w w2 m M vo ve L E gb gm R e:=by
 obtain ⟨A,k,c,h1,h2,h3,h4,sp',vo',L',gb',gm',gs',h5,h6,h7⟩:=hD;have rX:=nG.size;have rY:=h4.size;have pG:=hc.size;refine ⟨A,k,c,h1,RE.chg h2 hc (fun y hy=>?_),fun y hy=>by have:=h3 y hy;omega,?_,sp',vo',L',gb',gm',gs',h5.cp (CP.of (F:=fun k=>k = b) hc (fun y hy=>.inl (aa hy))) (fun y hy e=>?_),h6,fun y hy=>?_⟩
 ·have:=h3 y hy;simp;omega
 ·have e1:CP (FW' M m vo ve L gb gm) w W:=CP.of0 nG;have e2:=e1.trans h4 (fun x hx=>.inl hx);exact e2.trans (CP.of (F:=fun k=>k = b) hc (fun y hy=>.inl (aa hy))) (fun x hx=>.inr (by omega))
 ·rcases h7 y hy with ⟨h,h'⟩ | h
  ·have:=kG y h;omega
  ·omega
 ·rcases h7 y hy with ⟨h,h'⟩ | ⟨h,h'⟩
  ·exact .inl ⟨h,by omega⟩
  ·exact .inr ⟨by omega,by omega⟩
theorem DoR.told {w1:World} {z:Int} (h:WIn w m M sp vo ve L E gb gm gs) (kG:∀k,FW' M m vo ve L gb gm k→k < w.heap.size) (hc:Chg [] w w1):DoR w w1 m M vo ve L E gb gm (bw z,none) (.returned (.agg (rsc (bw z) zV))):=by
 refine ⟨none,0,0,rfl,RE.nil ucl 1 _ none 0,fun _ hk=>(cw hk).elim,CP.of0 hc,sp,vo,L,gb,gm,gs,?_,Nat.le_refl _,fun y hy=>.inl ⟨?_,?_⟩⟩
 ·have:=h.stay hc;split <;> exact this
 ·have e:(if (bw z,(none:Option Mo)).1.e = 0 then (bw z,(none:Option Mo)).2.getD M else M) = M:=by split <;> rfl
  rw [e] at hy;exact hy
 ·have e:(if (bw z,(none:Option Mo)).1.e = 0 then (bw z,(none:Option Mo)).2.getD M else M) = M:=by split <;> rfl
  rw [e] at hy;exact al (kG y hy) hc.size
theorem do10_any (h:WIn w m M sp vo ve L E gb gm gs) (kG:∀k,FW' M m vo ve L gb gm k→k < w.heap.size)
  {x:Cl} (hx:x.Ok) (hk:x.k = 10∨x.k = 19∨x.k = 20∨x.k = 21) (v:Value) (hv:v.oneCell' = true) (hvb:RB w v x.l) :
  Calls Tryz.prog 37 #[.pointer (some ⟨m,0,none⟩),.agg (clc x v)] w fun e w'=>DoR w w' m M vo ve L E gb gm (doA M x) e:=by
 obtain ⟨W1,kP⟩:∃W1,W1 = w.alloc (.cells (clc x v) 47):=⟨_,rfl⟩;obtain ⟨W2,kJ⟩:∃W2,W2 = W1.alloc (.cells (rsc zRs zV) 40):=⟨_,rfl⟩;have c01:Chg [] w W1:=by rw [kP];exact (av [] w).alloc _
 have c12:Chg [] W1 W2:=by rw [kJ];exact (av [] W1).alloc _
 have lM:KB W2 w.heap.size x v:=bh (by rw [kP];exact ax w _ _) c12;have lW:XB W2 W1.heap.size zRs zV:=by rw [kJ];exact ax W1 _ _
 have e1:W1.heap.size = w.heap.size+1:=by rw [kP];exact af _ _
 have e2:W2.heap.size = w.heap.size+2:=by rw [kJ,af];omega
 obtain ⟨b3,lD⟩:∃y,y = w.heap.size:=⟨_,rfl⟩;obtain ⟨b4,lZ⟩:∃y,y = W1.heap.size:=⟨_,rfl⟩;rw [← lD] at lM;rw [← lZ] at lW;have HI:=bk (fun W (hc:Chg [] W2 W)=>h.stay ((c01.stay c12).stay hc));have mC:=bk (fun W (hc:Chg [] W2 W)=>(bh lM hc:KB W b3 x v));have lF:=bk (fun W (hc:Chg [] W2 W)=>(bf lW hc:XB W b4 zRs zV));have kS:=bk (c01.stay c12);have mH:=bk kP;have kW:=bk kJ;have HB:=bk (show b3 = w.heap.size∧b4 = w.heap.size+1∧W2.heap.size = w.heap.size+2 by omega);have lI:=bk lD;have lG:=bk lZ;have kR:=bk kG;have oD:=bk (fun k hk=>al (kG k hk) (c01.stay c12).size);have HK:=bk hk;have oX:=bk hx;have HV:=bk (fun W (hc:Chg [] W2 W)=>RE.stay hvb ((c01.stay c12).stay hc));have DK:=bk hv;skip;obtain ⟨RR,lJ⟩:∃R,R = doA M x:=⟨_,rfl⟩;rw [← lJ];have kH:=bk lJ;clear h kG hx hv c01 c12 lM lW e1 e2 lD lZ kP kJ lJ hvb hk;go_enter Tryz.func37,Tryz.ntmps37;go_upto_region 1 with (first|refine cc rfl _ rfl rfl ?_;try rw [← mH.out]|refine ck rfl rfl ?_;try rw [← kW.out])
 try rw [← lI.out,← lG.out]
 obtain ⟨r0,r1,-,-,-,-,-,-,-,-,-,-,rl,-⟩:=ay (mC.out W2 (av _ _));obtain rfl:RR = (bw 0,none):=by rw [kH.out];unfold doA cj;rcases HK.out with h | h | h | h <;> rw [h] <;> rfl
 rcases HK.out with hk | hk | hk | hk <;> rw [hk] at r0 <;> clear hk
 ·go_wp2_with fail;refine (ei 0 _).mono ?_;rintro e W5 ⟨rfl,kE⟩;have kU:=bk kE;clear kE;go_wp2_with (first|refine bu (b:=b4) (x:=zRs) (v:=zV) (y:=bw 0) (u:=zV) rfl _ _ rfl rfl rfl rfl (lF.out W5 kU.out) ?_;intro W6 h6 kF);refine bodyPost_ret (v:=.agg (rsc (bw 0) zV)) (results_cell_row (p:=4) (ty:=40) rfl _ _ b4 40 _ (0,0) _ rfl h6 Tryz.underlying40 rfl dq) rfl ?_;exact DoR.fin kR.out kS.out (DoR.told (HI.out W2 (av _ _)) oD.out kU.out) kF (by have:=HB.out;omega) (by have:=HB.out;omega)
 ·go_wp2_with fail;refine (ei 0 _).mono ?_;rintro e W5 ⟨rfl,kE⟩;have kU:=bk kE;clear kE;go_wp2_with (first|refine bu (b:=b4) (x:=zRs) (v:=zV) (y:=bw 0) (u:=zV) rfl _ _ rfl rfl rfl rfl (lF.out W5 kU.out) ?_;intro W6 h6 kF);refine bodyPost_ret (v:=.agg (rsc (bw 0) zV)) (results_cell_row (p:=4) (ty:=40) rfl _ _ b4 40 _ (0,0) _ rfl h6 Tryz.underlying40 rfl dq) rfl ?_;exact DoR.fin kR.out kS.out (DoR.told (HI.out W2 (av _ _)) oD.out kU.out) kF (by have:=HB.out;omega) (by have:=HB.out;omega)
 ·go_wp2_with fail;refine (ei 0 _).mono ?_;rintro e W5 ⟨rfl,kE⟩;have kU:=bk kE;clear kE;go_wp2_with (first|refine bu (b:=b4) (x:=zRs) (v:=zV) (y:=bw 0) (u:=zV) rfl _ _ rfl rfl rfl rfl (lF.out W5 kU.out) ?_;intro W6 h6 kF);refine bodyPost_ret (v:=.agg (rsc (bw 0) zV)) (results_cell_row (p:=4) (ty:=40) rfl _ _ b4 40 _ (0,0) _ rfl h6 Tryz.underlying40 rfl dq) rfl ?_;exact DoR.fin kR.out kS.out (DoR.told (HI.out W2 (av _ _)) oD.out kU.out) kF (by have:=HB.out;omega) (by have:=HB.out;omega)
 ·go_wp2_with fail;refine (ei 0 _).mono ?_;rintro e W5 ⟨rfl,kE⟩;have kU:=bk kE;clear kE;go_wp2_with (first|refine bu (b:=b4) (x:=zRs) (v:=zV) (y:=bw 0) (u:=zV) rfl _ _ rfl rfl rfl rfl (lF.out W5 kU.out) ?_;intro W6 h6 kF);refine bodyPost_ret (v:=.agg (rsc (bw 0) zV)) (results_cell_row (p:=4) (ty:=40) rfl _ _ b4 40 _ (0,0) _ rfl h6 Tryz.underlying40 rfl dq) rfl ?_;exact DoR.fin kR.out kS.out (DoR.told (HI.out W2 (av _ _)) oD.out kU.out) kF (by have:=HB.out;omega) (by have:=HB.out;omega)
theorem do11_any (h:WIn w m M sp vo ve L E gb gm gs) (kG:∀k,FW' M m vo ve L gb gm k→k < w.heap.size)
  {x:Cl} (hx:x.Ok) (hL:L.length≤500000) (hk:x.k = 11∨x.k = 12∨x.k = 13) (hw:dr M.c x = false) (v:Value) (hv:v.oneCell' = true) (hvb:RB w v x.l) (hdj:x.l≠[]→∀k∈own v,¬ FW' M m vo ve L gb gm k) :
  Calls Tryz.prog 37 #[.pointer (some ⟨m,0,none⟩),.agg (clc x v)] w fun e w'=>DoR w w' m M vo ve L E gb gm (doA M x) e:=by
 obtain ⟨W1,kP⟩:∃W1,W1 = w.alloc (.cells (clc x v) 47):=⟨_,rfl⟩;obtain ⟨W2,kJ⟩:∃W2,W2 = W1.alloc (.cells (rsc zRs zV) 40):=⟨_,rfl⟩;have c01:Chg [] w W1:=by rw [kP];exact (av [] w).alloc _
 have c12:Chg [] W1 W2:=by rw [kJ];exact (av [] W1).alloc _
 have lM:KB W2 w.heap.size x v:=bh (by rw [kP];exact ax w _ _) c12;have lW:XB W2 W1.heap.size zRs zV:=by rw [kJ];exact ax W1 _ _
 have e1:W1.heap.size = w.heap.size+1:=by rw [kP];exact af _ _
 have e2:W2.heap.size = w.heap.size+2:=by rw [kJ,af];omega
 obtain ⟨b3,lD⟩:∃y,y = w.heap.size:=⟨_,rfl⟩;obtain ⟨b4,lZ⟩:∃y,y = W1.heap.size:=⟨_,rfl⟩;rw [← lD] at lM;rw [← lZ] at lW;have HI:=bk (fun W (hc:Chg [] W2 W)=>h.stay ((c01.stay c12).stay hc));have mC:=bk (fun W (hc:Chg [] W2 W)=>(bh lM hc:KB W b3 x v));have lF:=bk (fun W (hc:Chg [] W2 W)=>(bf lW hc:XB W b4 zRs zV));have kS:=bk (c01.stay c12);have mH:=bk kP;have kW:=bk kJ;have HB:=bk (show b3 = w.heap.size∧b4 = w.heap.size+1∧W2.heap.size = w.heap.size+2 by omega);have lI:=bk lD;have lG:=bk lZ;have kR:=bk kG;have oD:=bk (fun k hk=>al (kG k hk) (c01.stay c12).size);have HK:=bk hk;have oX:=bk hx;have HV:=bk (fun W (hc:Chg [] W2 W)=>RE.stay hvb ((c01.stay c12).stay hc));have DK:=bk hv;have HL:=bk hL;have HW:=bk hw;have Gh:=bk hdj;obtain ⟨RR,lJ⟩:∃R,R = doA M x:=⟨_,rfl⟩;rw [← lJ];have kH:=bk lJ;clear h kG hx hv c01 c12 lM lW e1 e2 lD lZ kP kJ lJ hvb hk hL hw hdj;go_enter Tryz.func37,Tryz.ntmps37;go_upto_region 1 with (first|refine cc rfl _ rfl rfl ?_;try rw [← mH.out]|refine ck rfl rfl ?_;try rw [← kW.out])
 try rw [← lI.out,← lG.out]
 obtain ⟨r0,r1,-,-,-,-,-,-,-,-,-,-,rl,-⟩:=ay (mC.out W2 (av _ _));obtain rfl:RR = gj M x:=by rw [kH.out];unfold doA cj;rcases HK.out with h | h | h <;> rw [h] <;> rfl
 rcases HK.out with hk | hk | hk <;> rw [hk] at r0
 ·have Ag:=bk (bJ (HI.out W2 (av _ _)) oD.out oX.out HL.out hk v DK.out (HV.out W2 (av _ _)));clear hk;go_wp2_with (first|refine dk (b:=b3) (x:=x) (v:=v) rfl _ rfl rfl (mC.out W2 (av _ _)) ?_);refine Ag.out.mono ?_;rintro e W5 hD;obtain ⟨A5,k5,c5,rfl,wD⟩:=show ∃A k c,e = .returned (.agg (rsc (gj M x).1 (.slice A k c)))∧DoR W2 W5 m M vo ve L E gb gm (gj M x) e from by have wC:=hD;obtain ⟨A,k,c,h1,-⟩:=wC;exact ⟨A,k,c,h1,hD⟩
  have HD:=bk wD;have wA:=bk (show XB W5 b4 zRs zV from Blk.cp (lF.out W2 (av _ _)) (show CP (FW' M m vo ve L gb gm) W2 W5 from by have wC:=wD;obtain ⟨-,-,-,-,-,-,h4,-⟩:=wC;exact h4) (fun hk=>by have:=kR.out b4 hk;have:=HB.out;omega));clear hD wD;go_wp2_with (first|refine bu (b:=b4) (x:=zRs) (v:=zV) (y:=(gj M x).1) (u:=.slice A5 k5 c5) rfl _ _ rfl rfl rfl rfl wA.out ?_;intro W6 h6 kF);refine bodyPost_ret (v:=.agg (rsc (gj M x).1 (.slice A5 k5 c5))) (results_cell_row (p:=4) (ty:=40) rfl _ _ b4 40 _ (0,0) _ rfl h6 Tryz.underlying40 rfl dq) rfl ?_;exact DoR.fin kR.out kS.out HD.out kF (by have:=HB.out;omega) (by have:=HB.out;omega)
 ·have Ag:=bk (bK (HI.out W2 (av _ _)) oD.out oX.out HL.out hk HW.out v DK.out (HV.out W2 (av _ _)));clear hk;go_wp2_with (first|refine dk (b:=b3) (x:=x) (v:=v) rfl _ rfl rfl (mC.out W2 (av _ _)) ?_);refine Ag.out.mono ?_;rintro e W5 hD;obtain ⟨A5,k5,c5,rfl,wD⟩:=show ∃A k c,e = .returned (.agg (rsc (gj M x).1 (.slice A k c)))∧DoR W2 W5 m M vo ve L E gb gm (gj M x) e from by have wC:=hD;obtain ⟨A,k,c,h1,-⟩:=wC;exact ⟨A,k,c,h1,hD⟩
  have HD:=bk wD;have wA:=bk (show XB W5 b4 zRs zV from Blk.cp (lF.out W2 (av _ _)) (show CP (FW' M m vo ve L gb gm) W2 W5 from by have wC:=wD;obtain ⟨-,-,-,-,-,-,h4,-⟩:=wC;exact h4) (fun hk=>by have:=kR.out b4 hk;have:=HB.out;omega));clear hD wD;go_wp2_with (first|refine bu (b:=b4) (x:=zRs) (v:=zV) (y:=(gj M x).1) (u:=.slice A5 k5 c5) rfl _ _ rfl rfl rfl rfl wA.out ?_;intro W6 h6 kF);refine bodyPost_ret (v:=.agg (rsc (gj M x).1 (.slice A5 k5 c5))) (results_cell_row (p:=4) (ty:=40) rfl _ _ b4 40 _ (0,0) _ rfl h6 Tryz.underlying40 rfl dq) rfl ?_;exact DoR.fin kR.out kS.out HD.out kF (by have:=HB.out;omega) (by have:=HB.out;omega)
 ·have Ag:=bk (bL (HI.out W2 (av _ _)) oD.out oX.out HL.out hk HW.out v DK.out (HV.out W2 (av _ _)) Gh.out);clear hk;go_wp2_with (first|refine dk (b:=b3) (x:=x) (v:=v) rfl _ rfl rfl (mC.out W2 (av _ _)) ?_);refine Ag.out.mono ?_;rintro e W5 hD;obtain ⟨A5,k5,c5,rfl,wD⟩:=show ∃A k c,e = .returned (.agg (rsc (gj M x).1 (.slice A k c)))∧DoR W2 W5 m M vo ve L E gb gm (gj M x) e from by have wC:=hD;obtain ⟨A,k,c,h1,-⟩:=wC;exact ⟨A,k,c,h1,hD⟩
  have HD:=bk wD;have wA:=bk (show XB W5 b4 zRs zV from Blk.cp (lF.out W2 (av _ _)) (show CP (FW' M m vo ve L gb gm) W2 W5 from by have wC:=wD;obtain ⟨-,-,-,-,-,-,h4,-⟩:=wC;exact h4) (fun hk=>by have:=kR.out b4 hk;have:=HB.out;omega));clear hD wD;go_wp2_with (first|refine bu (b:=b4) (x:=zRs) (v:=zV) (y:=(gj M x).1) (u:=.slice A5 k5 c5) rfl _ _ rfl rfl rfl rfl wA.out ?_;intro W6 h6 kF);refine bodyPost_ret (v:=.agg (rsc (gj M x).1 (.slice A5 k5 c5))) (results_cell_row (p:=4) (ty:=40) rfl _ _ b4 40 _ (0,0) _ rfl h6 Tryz.underlying40 rfl dq) rfl ?_;exact DoR.fin kR.out kS.out HD.out kF (by have:=HB.out;omega) (by have:=HB.out;omega)
theorem do2_any (h:WIn w m M sp vo ve L E gb gm gs) (kG:∀k,FW' M m vo ve L gb gm k→k < w.heap.size)
  {x:Cl} (hx:x.Ok) (oV:MoOk M) (hk:x.k≠1∧x.k≠10∧x.k≠11∧x.k≠12∧x.k≠13∧x.k≠19∧x.k≠20∧x.k≠21) (hw:dr M.c x = false) (v:Value) (hv:v.oneCell' = true) (hvb:RB w v x.l) :
  Calls Tryz.prog 37 #[.pointer (some ⟨m,0,none⟩),.agg (clc x v)] w fun e w'=>DoR w w' m M vo ve L E gb gm (doA M x) e:=by
 obtain ⟨W1,kP⟩:∃W1,W1 = w.alloc (.cells (clc x v) 47):=⟨_,rfl⟩;obtain ⟨W2,kJ⟩:∃W2,W2 = W1.alloc (.cells (rsc zRs zV) 40):=⟨_,rfl⟩;have c01:Chg [] w W1:=by rw [kP];exact (av [] w).alloc _
 have c12:Chg [] W1 W2:=by rw [kJ];exact (av [] W1).alloc _
 have lM:KB W2 w.heap.size x v:=bh (by rw [kP];exact ax w _ _) c12;have lW:XB W2 W1.heap.size zRs zV:=by rw [kJ];exact ax W1 _ _
 have e1:W1.heap.size = w.heap.size+1:=by rw [kP];exact af _ _
 have e2:W2.heap.size = w.heap.size+2:=by rw [kJ,af];omega
 obtain ⟨b3,lD⟩:∃y,y = w.heap.size:=⟨_,rfl⟩;obtain ⟨b4,lZ⟩:∃y,y = W1.heap.size:=⟨_,rfl⟩;rw [← lD] at lM;rw [← lZ] at lW;have HI:=bk (fun W (hc:Chg [] W2 W)=>h.stay ((c01.stay c12).stay hc));have mC:=bk (fun W (hc:Chg [] W2 W)=>(bh lM hc:KB W b3 x v));have lF:=bk (fun W (hc:Chg [] W2 W)=>(bf lW hc:XB W b4 zRs zV));have kS:=bk (c01.stay c12);have mH:=bk kP;have kW:=bk kJ;have HB:=bk (show b3 = w.heap.size∧b4 = w.heap.size+1∧W2.heap.size = w.heap.size+2 by omega);have lI:=bk lD;have lG:=bk lZ;have kR:=bk kG;have oD:=bk (fun k hk=>al (kG k hk) (c01.stay c12).size);have HK:=bk hk;have oX:=bk hx;have HV:=bk (fun W (hc:Chg [] W2 W)=>RE.stay hvb ((c01.stay c12).stay hc));have DK:=bk hv;have tA:=bk oV;have HW:=bk hw;obtain ⟨RR,lJ⟩:∃R,R = doA M x:=⟨_,rfl⟩;rw [← lJ];have kH:=bk lJ;clear h kG hx hv c01 c12 lM lW e1 e2 lD lZ kP kJ lJ hvb hk oV hw;go_enter Tryz.func37,Tryz.ntmps37;go_upto_region 1 with (first|refine cc rfl _ rfl rfl ?_;try rw [← mH.out]|refine ck rfl rfl ?_;try rw [← kW.out])
 try rw [← lI.out,← lG.out]
 obtain ⟨r0,r1,-,-,-,-,-,-,-,-,-,-,rl,-⟩:=ay (mC.out W2 (av _ _));obtain ⟨k1,k2,k3,k4,k5,k6,k7,k8⟩:=HK.out;have d1:((x.k:Int) == 1) = false:=aj (by omega);have d2:((x.k:Int) == 10) = false:=aj (by omega);have d3:((x.k:Int) == 11) = false:=aj (by omega);have d4:((x.k:Int) == 12) = false:=aj (by omega);have d5:((x.k:Int) == 13) = false:=aj (by omega);have d6:((x.k:Int) == 19) = false:=aj (by omega);have d7:((x.k:Int) == 20) = false:=aj (by omega);have d8:((x.k:Int) == 21) = false:=aj (by omega);have hR:RR = match M.pr x.p with | none=>(bw 7,none) | some p=>dc M x 0 p:=by
  rw [kH.out];unfold doA cj;rw [ag k2,ag k1,ag k2,ag (by omega),ag (by omega)];cases M.pr x.p <;> rfl
 clear k1 k2 k3 k4 k5 k6 k7 k8;obtain ⟨zk,hzk⟩:∃z:Int,z = (x.k:Int):=⟨_,rfl⟩;rw [← hzk] at r0 d1 d2 d3 d4 d5 d6 d7 d8;have HR:=bk hR;clear hR hzk;go_wp2_with fail;refine (zw (HI.out W2 (av _ _)) x.p).mono ?_;rintro e W4 ⟨rfl,rfl⟩;cases hp:M.pr x.p with
 | none =>
  obtain rfl:RR = (bw 7,none):=by rw [HR.out,hp]
  clear hp;go_wp2_with fail;refine (ei 7 _).mono ?_;rintro e W5 ⟨rfl,kE⟩;have kU:=bk kE;clear kE;go_wp2_with (first|refine bu (b:=b4) (x:=zRs) (v:=zV) (y:=bw 7) (u:=zV) rfl _ _ rfl rfl rfl rfl (lF.out W5 kU.out) ?_;intro W6 h6 kF);refine bodyPost_ret (v:=.agg (rsc (bw 7) zV)) (results_cell_row (p:=4) (ty:=40) rfl _ _ b4 40 _ (0,0) _ rfl h6 Tryz.underlying40 rfl dq) rfl ?_;exact DoR.fin kR.out kS.out (DoR.told (HI.out W2 (av _ _)) oD.out kU.out) kF (by have:=HB.out;omega) (by have:=HB.out;omega)
 | some p =>
  have hR:=HR.out;rw [hp] at hR;have Cx:=(HI.out W2 (av _ _)).rng _ _ hp;obtain ⟨n,hn⟩:∃n:Nat,x.p = n:=⟨x.p.toNat,by omega⟩;have mS:=bk (jY (HI.out W2 (av _ _)) oD.out oX.out hn (by rw [← hn];exact hp) tA.out HW.out HK.out v DK.out (HV.out W2 (av _ _)));rw [hn,Int.toNat_natCast];have GE:=bk (show dc M x 0 p = RR from hR.symm);rw [GE.out] at mS;clear hp hR Cx hn HR;go_wp2_with (first|refine dk (b:=b3) (x:=x) (v:=v) rfl _ rfl rfl (mC.out W2 (av _ _)) ?_);refine mS.out.mono ?_;rintro e W5 hD;obtain ⟨A5,k5,c5,rfl,wD⟩:=show ∃A k c,e = .returned (.agg (rsc RR.1 (.slice A k c)))∧DoR W2 W5 m M vo ve L E gb gm RR e from by have wC:=hD;obtain ⟨A,k,c,h1,-⟩:=wC;exact ⟨A,k,c,h1,hD⟩
  have HD:=bk wD;have wA:=bk (show XB W5 b4 zRs zV from Blk.cp (lF.out W2 (av _ _)) (show CP (FW' M m vo ve L gb gm) W2 W5 from by have wC:=wD;obtain ⟨-,-,-,-,-,-,h4,-⟩:=wC;exact h4) (fun hk=>by have:=kR.out b4 hk;have:=HB.out;omega));clear hD wD;go_wp2_with (first|refine bu (b:=b4) (x:=zRs) (v:=zV) (y:=RR.1) (u:=.slice A5 k5 c5) rfl _ _ rfl rfl rfl rfl wA.out ?_;intro W6 h6 kF);refine bodyPost_ret (v:=.agg (rsc RR.1 (.slice A5 k5 c5))) (results_cell_row (p:=4) (ty:=40) rfl _ _ b4 40 _ (0,0) _ rfl h6 Tryz.underlying40 rfl dq) rfl ?_;exact DoR.fin kR.out kS.out HD.out kF (by have:=HB.out;omega) (by have:=HB.out;omega)
theorem do1_any (h:WIn w m M sp vo ve L E gb gm gs) (kG:∀k,FW' M m vo ve L gb gm k→k < w.heap.size)
  {x:Cl} (hx:x.Ok) (hk:x.k = 1) (v:Value) (hv:v.oneCell' = true) (hvb:RB w v x.l) :
  Calls Tryz.prog 37 #[.pointer (some ⟨m,0,none⟩),.agg (clc x v)] w fun e w'=>DoR w w' m M vo ve L E gb gm (doA M x) e:=by
 obtain ⟨W1,kP⟩:∃W1,W1 = w.alloc (.cells (clc x v) 47):=⟨_,rfl⟩;obtain ⟨W2,kJ⟩:∃W2,W2 = W1.alloc (.cells (rsc zRs zV) 40):=⟨_,rfl⟩;have c01:Chg [] w W1:=by rw [kP];exact (av [] w).alloc _
 have c12:Chg [] W1 W2:=by rw [kJ];exact (av [] W1).alloc _
 have lM:KB W2 w.heap.size x v:=bh (by rw [kP];exact ax w _ _) c12;have lW:XB W2 W1.heap.size zRs zV:=by rw [kJ];exact ax W1 _ _
 have e1:W1.heap.size = w.heap.size+1:=by rw [kP];exact af _ _
 have e2:W2.heap.size = w.heap.size+2:=by rw [kJ,af];omega
 obtain ⟨b3,lD⟩:∃y,y = w.heap.size:=⟨_,rfl⟩;obtain ⟨b4,lZ⟩:∃y,y = W1.heap.size:=⟨_,rfl⟩;rw [← lD] at lM;rw [← lZ] at lW;have HI:=bk (fun W (hc:Chg [] W2 W)=>h.stay ((c01.stay c12).stay hc));have mC:=bk (fun W (hc:Chg [] W2 W)=>(bh lM hc:KB W b3 x v));have lF:=bk (fun W (hc:Chg [] W2 W)=>(bf lW hc:XB W b4 zRs zV));have kS:=bk (c01.stay c12);have mH:=bk kP;have kW:=bk kJ;have HB:=bk (show b3 = w.heap.size∧b4 = w.heap.size+1∧W2.heap.size = w.heap.size+2 by omega);have lI:=bk lD;have lG:=bk lZ;have kR:=bk kG;have oD:=bk (fun k hk=>al (kG k hk) (c01.stay c12).size);have HK:=bk hk;have oX:=bk hx;have HV:=bk (fun W (hc:Chg [] W2 W)=>RE.stay hvb ((c01.stay c12).stay hc));have DK:=bk hv;skip;obtain ⟨RR,lJ⟩:∃R,R = doA M x:=⟨_,rfl⟩;rw [← lJ];have kH:=bk lJ;clear h kG hx hv c01 c12 lM lW e1 e2 lD lZ kP kJ lJ hvb hk;go_enter Tryz.func37,Tryz.ntmps37;go_upto_region 1 with (first|refine cc rfl _ rfl rfl ?_;try rw [← mH.out]|refine ck rfl rfl ?_;try rw [← kW.out])
 try rw [← lI.out,← lG.out]
 obtain ⟨r0,r1,-,-,-,-,-,-,-,-,-,-,rl,-⟩:=ay (mC.out W2 (av _ _));rw [HK.out] at r0;have hR:RR = jf M:=by rw [kH.out];unfold doA cj;rw [ag (by rw [HK.out];decide),ah HK.out]
 have HR:=bk hR;clear hR;go_upto_region 4 with (fail)
 clear r0 r1 rl;go_loopw [5] (fun iv wr=>wr = W2∧∃t:Nat,1≤t∧t≤9∧iv = .int .i64 t∧Hid (∀j:Nat,1≤j→j < t→M.pr j≠none)) (fun iv _=>9 - (intOf iv).toNat)
 case atStart=>exact ⟨rfl,1,by omega,by omega,rfl,bk (fun j h1 h2=>by omega)⟩
 case round =>
  obtain ⟨rfl,t,ht1,ht9,rfl,lR⟩:=hrel;have oH:=bk lR.out;clear lR;by_cases h8:t≤8
  ·have dl:decide ((t:Int)≤8) = true:=ae (by omega);have dl':decide (t≤8) = true:=ae h8;have i0:(0:Int)≤(t:Int):=(by omega);have i1:(t:Int) < 9:=(by omega);have oW:IntKind.i64.wrap ((t:Int)+1) = (t:Int)+1:=(by rw [IntKind.wrap_i64];omega);have qs:=WIn.sp_at (HI.out wr (av _ _)) (show t < 9 by omega);have ml:=bb (HI.out wr (av _ _)).blk;have HT:=bk (show 1≤t∧t≤8 from ⟨ht1,h8⟩);clear ht1 ht9 h8;cases hp:M.pr (t:Int) with
   | some p =>
    rw [hp] at qs;have HP:=bk hp;clear hp;go_wp2_with fail;go_roundw
    case rel=>exact ⟨trivial,t+1,by omega,by have:=HT.out;omega,by go_num,bk (fun j h1 h2=>by
     by_cases e:j = t
     ·rw [e,HP.out];exact Option.some_ne_none _
     ·exact oH.out j h1 (by omega))⟩
    case measure=>have:=HT.out;simp [intOf];omega
   | none =>
    rw [hp] at qs;obtain rfl:RR = (⟨0,t,[]⟩,some { M with pr:=upd M.pr t (some jv) }):=by
     rw [HR.out];unfold jf;rw [jR HT.out.1 HT.out.2 oH.out hp];rfl
    have hwu:IntKind.u64.wrap (t:Int) = (t:Int):=(by rw [IntKind.wrap_u64];have:=HT.out;omega);have EV:=bk (br_v t);clear hp;go_upto_region 7 with (fail)
    clear qs ml;go_upto_region 8 with (first|refine ru (k:=.i64) rfl rfl ?_;intro Wm hm wK pV;have HM:=bk hm;have sD:=bk wK;have uA:=bk pV;clear hm wK pV|refine yl (b:=wr.heap.size) rfl _ rfl rfl ?_;intro Wb hb sS mP;have zO:=bk hb;have qU:=bk (sD.out.stay sS);have pE:=bk (HM.out.stay sS);have sE:=bk mP;clear hb sS mP;have qs:=WIn.sp_at (HI.out Wb qU.out) (show t < 9 by have:=HT.out;omega);have ml:=bb (HI.out Wb qU.out).blk;have xI:=Blk.frozen (HI.out Wb qU.out).blk (94+t))
    have nY:=bk (WIn.spawn (HI.out wr (av _ _)) oD.out HT.out qU.out zO.out pE.out (by have:=uA.out;omega) (Nat.le_refl _));have lC:Chg [m] wr (Wb.setCell ⟨m,94+t,none⟩ (.pointer (some ⟨Wm.heap.size,0,none⟩))):=(qU.out.up [m]).setCell (p:=⟨m,94+t,none⟩) (.inl (by simp)) _;have EQ:XB (Wb.setCell ⟨m,94+t,none⟩ (.pointer (some ⟨Wm.heap.size,0,none⟩))) b4 zRs zV:=aw (lF.out wr (av _ _)) lC (by have:=kR.out m (.inl rfl);have:=HB.out;simp;omega);have HZ9:=bk (show Wb.heap.size≤(Wb.setCell ⟨m,94+t,none⟩ (.pointer (some ⟨Wm.heap.size,0,none⟩))).heap.size from Nat.le_of_eq (oy _ _ _).symm);generalize Wb.setCell ⟨m,94+t,none⟩ (.pointer (some ⟨Wm.heap.size,0,none⟩)) = W9 at nY HZ9 lC EQ ⊢;have mM:=bk lC;have HXB9:=bk EQ;clear lC EQ qs ml xI;go_wp2_with (first|refine cz rfl _ rfl EV.out ?_ ?_;(focus (simp [Act.eval,Act.put];done))|refine bu (b:=b4) (x:=zRs) (v:=zV) (y:=⟨0,t,[]⟩) (u:=zV) rfl _ _ rfl rfl rfl rfl HXB9.out ?_;intro W6 h6 kF);refine bodyPost_ret (v:=.agg (rsc ⟨0,t,[]⟩ zV)) (results_cell_row (p:=4) (ty:=40) rfl _ _ b4 40 _ (0,0) _ rfl h6 Tryz.underlying40 rfl dq) rfl ?_;refine DoR.fin kR.out kS.out (W:=wr) (w1:=W9) ?_ kF (by have:=HB.out;omega) (by have:=HB.out;omega);refine ⟨none,0,0,rfl,RE.nil ucl 1 _ none 0,fun _ hk=>(cw hk).elim,CP.of mM.out (fun y hy=>.inl (by obtain rfl:=aa hy;exact .inl rfl)),_,vo,L,_,_,_,nY.out,Nat.le_refl _,fun y hy=>?_⟩;have CJ:=mM.out.size;have hzb:=zO.out.lt;have hzm:=pE.out.lt;have hz9':Wb.heap.size≤W9.heap.size:=HZ9.out;rcases hy with rfl | h | h | h | ⟨i,q,hi,hk⟩
    ·exact .inl ⟨.inl rfl,al (oD.out _ (.inl rfl)) CJ⟩
    ·exact .inl ⟨.inr (.inl h),al (oD.out _ (.inr (.inl h))) CJ⟩
    ·exact .inl ⟨.inr (.inr (.inl h)),al (oD.out _ (.inr (.inr (.inl h)))) CJ⟩
    ·exact .inl ⟨.inr (.inr (.inr (.inl h))),al (oD.out _ (.inr (.inr (.inr (.inl h))))) CJ⟩
    ·have rT:upd M.pr t (some jv) i = some q:=hi;unfold upd at rT;by_cases e:i = t
     ·rw [show upN gb t Wm.heap.size i = Wm.heap.size from ah e,show upN gm t wr.heap.size i = wr.heap.size from ah e] at hk;have:=uA.out;exact .inr ⟨by omega,by omega⟩
     ·rw [ag (by omega)] at rT;rw [show upN gb t Wm.heap.size i = gb i from ag e,show upN gm t wr.heap.size i = gm i from ag e] at hk;have:=oD.out y (.inr (.inr (.inr (.inr ⟨i,q,rT,hk⟩))));exact .inl ⟨.inr (.inr (.inr (.inr ⟨i,q,rT,hk⟩))),by omega⟩
  ·obtain rfl:t = 9:=(by omega);obtain rfl:RR = (bw 9,none):=by
    rw [HR.out];unfold jf;rw [jS oH.out]
   have dl:decide (((9:Nat):Int)≤8) = false:=(by decide);clear h8 ht1 ht9;go_wp2_with fail;refine (ei 9 _).mono ?_;rintro e W5 ⟨rfl,kE⟩;have kU:=bk kE;clear kE;go_wp2_with (first|refine bu (b:=b4) (x:=zRs) (v:=zV) (y:=bw 9) (u:=zV) rfl _ _ rfl rfl rfl rfl (lF.out W5 kU.out) ?_;intro W6 h6 kF);refine bodyPost_ret (v:=.agg (rsc (bw 9) zV)) (results_cell_row (p:=4) (ty:=40) rfl _ _ b4 40 _ (0,0) _ rfl h6 Tryz.underlying40 rfl dq) rfl ?_;exact DoR.fin kR.out kS.out (DoR.told (HI.out wr (av _ _)) oD.out kU.out) kF (by have:=HB.out;omega) (by have:=HB.out;omega)
theorem bD (h:WIn w m M sp vo ve L E gb gm gs) (kG:∀k,FW' M m vo ve L gb gm k→k < w.heap.size)
  {x:Cl} (hx:x.Ok) (oV:MoOk M) (hL:L.length≤500000) (hw:dr M.c x = false) (v:Value) (hv:v.oneCell' = true) (hvb:RB w v x.l) (hdj:x.l≠[]→∀k∈own v,¬ FW' M m vo ve L gb gm k) :
  Calls Tryz.prog 37 #[.pointer (some ⟨m,0,none⟩),.agg (clc x v)] w fun e w'=>DoR w w' m M vo ve L E gb gm (doA M x) e:=by
 by_cases h1:x.k = 1
 ·exact do1_any h kG hx h1 v hv hvb
 by_cases h2:x.k = 10∨x.k = 19∨x.k = 20∨x.k = 21
 ·exact do10_any h kG hx h2 v hv hvb
 by_cases h3:x.k = 11∨x.k = 12∨x.k = 13
 ·exact do11_any h kG hx hL h3 hw v hv hvb hdj
 ·exact do2_any h kG hx oV (by omega) hw v hv hvb
theorem wmc_one {c:Cf} (h1:vo.oneCell' = true) (h2:ve.oneCell' = true):(wmc c sp vo ve).all (·.oneCell') = true:=by unfold wmc;have hp:∀i,(spv sp i).oneCell' = true:=fun _=>rfl;rw [Array.all_append,cg_one];simp [h1,h2,hp]
theorem zeroW:∀w,(zeroValue 79).run Tryz.prog w = .ok (.agg (wmc (fun _=>0) (fun _=>none) zV zV)) w:=by
 have h:(Tryz.prog.info? 79).map (fun i=>(i.zero,i.size)) = some (some (.agg (wmc (fun _=>0) (fun _=>none) zV zV)),105):=by kernel_rfl
 exact (zero_of_info h).1
theorem cellsW (c:Cf) (sp:Nat→Option Nat) (vo ve:Value):(Value.agg (wmc c sp vo ve)).cells = wmc c sp vo ve:=rfl
theorem fS (w:World):(Instr.alloc 79 true (.tuple #[])).run Tryz.prog w = .ok (.pointer (some ⟨w.heap.size,0,none⟩)) (w.alloc (.cells (wmc (fun _=>0) (fun _=>none) zV zV) 79)):=by
 have e:Tryz.zeroCells79 = wmc (fun _=>0) (fun _=>none) zV zV:=by kernel_rfl
 simp [Instr.alloc,Sem.run_bind,zeroW,newVar,newRow,run_newObj_alloc,cellsW,e]
theorem zeroQ:∀w,(zeroValue 100).run Tryz.prog w = .ok (.agg (spz (.map none)).toArray) w:=by
 have h:(Tryz.prog.info? 100).map (fun i=>(i.zero,i.size)) = some (some (.agg (spz (.map none)).toArray),4099):=by kernel_rfl
 exact (zero_of_info h).1
theorem fR (w:World):(Instr.alloc 100 true (.tuple #[])).run Tryz.prog w = .ok (.pointer (some ⟨w.heap.size,0,none⟩)) (w.alloc (.cells (spz (.map none)).toArray 100)):=by
 have e:Tryz.zeroCells100 = (spz (.map none)).toArray:=by kernel_rfl
 simp only [Instr.alloc,Sem.run_bind,zeroQ,newVar,newRow,run_newObj_alloc,Value.cells,Sem.run_pure,Result.andThen_ok,if_true,e]
theorem infoQ (s:Sq) (bm:Nat):(Tryz.prog.info? 100).map (·.size) = some (sqc (sqv s bm)).size:=by
 have h:(Tryz.prog.info? 100).map (·.size) = some 4099:=by kernel_rfl
 rw [lz];exact h
theorem spz_size (v:Value):(spz v).toArray.size = 4099:=by unfold spz;rw [List.size_toArray,List.length_append,List.length_cons,List.length_append,List.length_replicate,List.length_replicate,List.length_replicate]
theorem sqv_one (s:Sq) (bm i:Nat):(sqv s bm i).oneCell' = true:=by unfold sqv;(repeat' split) <;> rfl
theorem sqc_one (s:Sq) (bm:Nat):(sqc (sqv s bm)).all (·.oneCell') = true:=by rw [Array.all_eq_true];intro i hi;have h:=ug (sqv s bm) (i:=i) (by rw [lz] at hi;exact hi);rw [Array.getElem?_eq_getElem hi] at h;rw [aq h];exact sqv_one s bm i
section
variable {ops:Array Oper} {rest:List Oper} {o:Oper} {a:Act} {w:World} {Q:Exit→Act→World→Prop} {b:Nat} {c:Cf} {sp:Nat→Option Nat} {vo ve:Value} {s:Sq} {bm:Nat}
theorem kz (hg:o.guard = none) (z:Operand) (ho:o.op = .load 79 z) (hx:a.eval z = .pointer (some ⟨b,0,none⟩)) (h0:WB w b c sp vo ve) (h:wpList Tryz.prog ops Q rest (a.put o.dst (.agg (wmc c sp vo ve))) w):wpList Tryz.prog ops Q (o :: rest) a w :=
 wpList_load_row hg 79 z ho b hx 79 _ (0,0) _ h0 Tryz.underlying79 rfl (infoW c sp vo ve) h
theorem zl (hg:o.guard = none) (ho:o.op = .alloc 79)
  (h:∀w',WB w' w.heap.size (fun _=>0) (fun _=>none) zV zV→Chg [] w w'→wpList Tryz.prog ops Q rest (a.put o.dst (.pointer (some ⟨w.heap.size,0,none⟩))) w'):wpList Tryz.prog ops Q (o :: rest) a w :=
 Great.wpList_runTo hg _ rfl _ _ (by unfold execOp;simp only [ho,Sem.run_bind,fS,Sem.run_pure,Result.andThen_ok]) (h _ (ax w _ _) ((av [] w).alloc _))
theorem ke {c':Cf} {sp':Nat→Option Nat} {vo' ve':Value} (hg:o.guard = none) (z t:Operand) (ho:o.op = .store 79 z t) (hx:a.eval z = .pointer (some ⟨b,0,none⟩)) (hy:a.eval t = .agg (wmc c sp vo ve)) (h1:vo.oneCell' = true) (h2:ve.oneCell' = true) (h0:WB w b c' sp' vo' ve')
  (h:∀w',WB w' b c sp vo ve→Chg [b] w w'→wpList Tryz.prog ops Q rest (a.put o.dst undef) w'):wpList Tryz.prog ops Q (o :: rest) a w :=
 wpList_store_row hg 79 z t ho b _ hx hy 79 _ h0 (infoW c sp vo ve) (by rw [yh,yh]) (wmc_one h1 h2) (h _ (setRow_heap w b _ _ _ _ h0) ((av [b] w).setRow (.inl (by simp)) _))
theorem cD (hg:o.guard = none) (z:Operand) (ho:o.op = .load 100 z) (hx:a.eval z = .pointer (some ⟨b,0,none⟩)) (h0:QB w b s bm) (h:wpList Tryz.prog ops Q rest (a.put o.dst (.agg (sqc (sqv s bm)))) w):wpList Tryz.prog ops Q (o :: rest) a w :=
 wpList_load_row hg 100 z ho b hx 100 _ (0,0) _ h0 Tryz.underlying100 rfl (infoQ s bm) h
theorem zj (hg:o.guard = none) (ho:o.op = .alloc 100)
  (h:∀w',Blk w' w.heap.size 100 (spz (.map none)).toArray→Chg [] w w'→w'.heap.size = w.heap.size+1→wpList Tryz.prog ops Q rest (a.put o.dst (.pointer (some ⟨w.heap.size,0,none⟩))) w'):wpList Tryz.prog ops Q (o :: rest) a w :=
 Great.wpList_runTo hg _ rfl _ _ (by unfold execOp;simp only [ho,Sem.run_bind,fR,Sem.run_pure,Result.andThen_ok]) (h _ (ax w _ _) ((av [] w).alloc _) (af _ _))
theorem zp (hg:o.guard = none) (z t:Operand) (ho:o.op = .store 100 z t) (hx:a.eval z = .pointer (some ⟨b,0,none⟩)) (hy:a.eval t = .agg (sqc (sqv s bm))) (h0:Blk w b 100 (spz (.map none)).toArray)
  (h:∀w',QB w' b s bm→Chg [b] w w'→w'.heap.size = w.heap.size→wpList Tryz.prog ops Q rest (a.put o.dst undef) w'):wpList Tryz.prog ops Q (o :: rest) a w :=
 wpList_store_row hg 100 z t ho b _ hx hy 100 _ h0 (infoQ s bm) (by rw [lz];exact spz_size _) (sqc_one s bm) (h _ (setRow_heap w b _ _ _ _ h0) ((av [b] w).setRow (.inl (by simp)) _) (by simp))
theorem iA:(Tryz.prog.info? 37).map (fun i=>(i.zero,i.size,i.bytes)) = some (some (.int .u64 0),1,8):=by kernel_rfl
theorem iQ (l:List Nat):∀u∈fc wcl l,u.oneCell' = true:=fun u hu=>by
 unfold fc at hu
 obtain ⟨x,_,hx⟩:=List.mem_flatMap.1 hu
 simp [wcl] at hx
 subst hx
 rfl
theorem we (hg:o.guard = none) (s x:Operand)
  (ho:o.op = .call { callee:=.builtin .append,args:=#[s,x],argTypes:=#[71,71] }) (v y:Value) (hs:a.eval s = v) (hx:a.eval x = y) {l m:List Nat} (hv:SW w v l) (hy:RE wcl 1 w y m) (kQ:l.length+m.length≤1000000)
  (h:∀A n c w',Hid (n = (l ++ m).length)→SW w' (.slice A n c) (l ++ m)→Chg (own v) w w'→Grow w v (.slice A n c)→wpList Tryz.prog ops Q rest (a.put o.dst (.slice A n c)) w') :
  wpList Tryz.prog ops Q (o :: rest) a w:=by
 obtain ⟨i5,hi,hz,tC,tP⟩:=info_parts iA;refine ll hg s x 71 ho 37 Tryz.underlying71 hi hz tC tP rfl hs hv hx hy (iQ m) (by unfold maxLen;omega) (by omega) fun v' w' h2 h3 h4=>?_;have pY:SW w' v' (l ++ m):=by
  unfold SW SE;rw [List.length_append,lc];exact h2
 obtain ⟨A,c,rfl⟩:=pY.form;exact h A _ c w' rfl pY h3 (pq h4)
end
theorem eK (s x:Operand)
  (ho:o.op = .call { callee:=.builtin .append,args:=#[s,x],argTypes:=#[71,71] }) (v y:Value) (hs:a.eval s = v) (hx:a.eval x = y) {l m:List Nat} (hv:SW w v l) (hy:RE wcl 1 w y m) (kQ:l.length+m.length≤1000000)
  (h:∀A n c w',Hid (n = (l ++ m).length)→SW w' (.slice A n c) (l ++ m)→Chg (own v) w w'→Grow w v (.slice A n c)→K (a.put o.dst (.slice A n c)) w'):o.wp Tryz.prog a w K Q:=by
 obtain ⟨i5,hi,hz,tC,tP⟩:=info_parts iA;refine mt s x 71 ho 37 Tryz.underlying71 hi hz tC tP rfl hs hv hx hy (iQ m) (by unfold maxLen;omega) (by omega) fun v' w' h2 h3 h4=>?_;have pY:SW w' v' (l ++ m):=by
  unfold SW SE;rw [List.length_append,lc];exact h2
 obtain ⟨A,c,rfl⟩:=pY.form;exact h A _ c w' rfl pY h3 (pq h4)
structure CwI (w wr:World) (b:Nat) (M:Mo) (sp:Nat→Option Nat) (vo ve:Value) (gs:Nat→Sq) (t:Nat) (g' m':Nat→Nat):Prop where
 chg:Chg [] w wr
 blk:WB wr b M.c (fun j=>if j < t then (M.pr j).map fun _=>g' j else sp j) vo ve
 gb:w.heap.size≤b
 pr:∀(j:Nat) p,j < t→M.pr j = some p→QB wr (g' j) (gs j) (m' j)∧MapB wr (m' j) .i64 (byF (gs j))∧w.heap.size≤g' j∧w.heap.size≤m' j
 ib:∀(j j':Nat) p p',j < t→j' < t→M.pr j = some p→M.pr j' = some p'→j≠j'→g' j≠g' j'∧m' j≠m' j'
section
variable {w wr wx:World} {b:Nat} {M:Mo} {sp:Nat→Option Nat} {vo ve:Value} {gs:Nat→Sq} {t:Nat} {g' m':Nat→Nat}
theorem CwI.skip (h:CwI w wr b M sp vo ve gs t g' m') (hn:M.pr t = none) (hs:sp t = none):CwI w wr b M sp vo ve gs (t+1) g' m':=by
 have e:(fun j:Nat=>if j < t+1 then (M.pr j).map fun _=>g' j else sp j) = fun j:Nat=>if j < t then (M.pr j).map fun _=>g' j else sp j:=by
  funext j;by_cases e:j = t
  ·subst e;rw [ah (by omega),ag (by omega),hn,hs];rfl
  ·by_cases e2:j < t
   ·rw [ah (by omega),ah e2]
   ·rw [ag (by omega),ag e2]
 have lt:∀(j:Nat) p,j < t+1→M.pr j = some p→j < t:=fun j p hj hp=>by
  rcases Nat.lt_or_ge j t with h1 | h1
  ·exact h1
  ·obtain rfl:j = t:=(by omega);rw [hn] at hp;cases hp
 exact ⟨h.chg,by rw [e];exact h.blk,h.gb,fun j p hj hp=>h.pr j p (lt j p hj hp) hp,fun j j' p p' hj sH hp oP=>h.ib j j' p p' (lt j p hj hp) (lt j' p' sH oP) hp oP⟩
theorem CwI.step (h:CwI w wr b M sp vo ve gs t g' m') {p:Pr} (hp:M.pr t = some p) (ht:t < 9) {F:List Nat} (hc:Chg F wr wx) (hF:∀k∈F,wr.heap.size≤k) {bs bm:Nat} (hq:QB wx bs (gs t) bm) (hm:MapB wx bm .i64 (byF (gs t))) (CZ:wr.heap.size≤bs) (wF:wr.heap.size≤bm) :
  CwI w (wx.setCell ⟨b,94+t,none⟩ (.pointer (some ⟨bs,0,none⟩))) b M sp vo ve gs (t+1) (upN g' t bs) (upN m' t bm):=by
 have kI:Chg [b] wx (wx.setCell ⟨b,94+t,none⟩ (.pointer (some ⟨bs,0,none⟩))):=(av [b] wx).setCell (p:=⟨b,94+t,none⟩) (.inl (by simp)) _;have qR:=bb h.blk;have rX:=h.chg.size;have lH:WB wx b M.c (fun j=>if j < t then (M.pr j).map fun _=>g' j else sp j) vo ve:=aw h.blk hc (fun hk=>by have:=hF _ hk;omega);have glt:∀(i:Nat) q,i < t→M.pr i = some q→g' i < wr.heap.size∧m' i < wr.heap.size:=fun i q hi hq=>⟨bb (h.pr i q hi hq).1,(h.pr i q hi hq).2.1.lt⟩;have BB:=h.gb;refine ⟨(h.chg.trans hc (fun k hk=>.inr (by have:=hF k hk;omega))).setCell (.inr BB) _,?_,BB,fun j q hj rB=>?_,fun j j' q q' hj sH rJ mV kT=>?_⟩
 ·have:=WB.set_sp lH ht (some bs);have e:upN (fun j:Nat=>if j < t then (M.pr j).map fun _=>g' j else sp j) t (some bs) = fun j:Nat=>if j < t+1 then (M.pr j).map fun _=>upN g' t bs j else sp j:=by
   funext j;unfold upN;by_cases e:j = t
   ·rw [ah e,ah (by omega),e,hp];simp
   ·rw [ag e];by_cases e2:j < t
    ·show (if j < t then (M.pr j).map (fun _=>g' j) else sp j) = _;rw [ah e2,ah (show j < t+1 by omega)];congr 1;funext _;rw [ag e]
    ·show (if j < t then (M.pr j).map (fun _=>g' j) else sp j) = _;rw [ag e2,ag (show ¬ j < t+1 by omega)]
  rw [e] at this;exact this
 ·by_cases e:j = t
  ·subst e;rw [show upN g' j bs j = bs from ah rfl,show upN m' j bm j = bm from ah rfl];exact ⟨aw hq kI (by simp;omega),hm.chg kI (by simp;omega),by omega,by omega⟩
  ·have sH:j < t:=(by omega);obtain ⟨c1,c2,c3,c4⟩:=h.pr j q sH rB;rw [show upN g' t bs j = g' j from ag e,show upN m' t bm j = m' j from ag e];exact ⟨aw (aw c1 hc (fun hk=>by have:=hF _ hk;have:=bb c1;omega)) kI (by simp;exact fun x=>Blk.ne_ h.blk c1 (by decide) x.symm),(c2.chg hc (fun hk=>by have:=hF _ hk;have:=c2.lt;omega)).chg kI (by simp;exact fun x=>bj h.blk c2 x.symm),c3,c4⟩
 ·by_cases e:j = t
  ·have e':j'≠t:=fun x=>kT (e.trans x.symm);have:=glt j' q' (by omega) mV;rw [show upN g' t bs j = bs from ah e,show upN m' t bm j = bm from ah e,show upN g' t bs j' = g' j' from ag e',show upN m' t bm j' = m' j' from ag e'];omega
  ·have:=glt j q (by omega) rJ;rw [show upN g' t bs j = g' j from ag e,show upN m' t bm j = m' j from ag e];by_cases e':j' = t
   ·rw [show upN g' t bs j' = bs from ah e',show upN m' t bm j' = bm from ah e'];omega
   ·rw [show upN g' t bs j' = g' j' from ag e',show upN m' t bm j' = m' j' from ag e'];exact h.ib j j' q q' (by omega) (by omega) rJ mV kT
end
structure CmI (wr wy:World) (bs bm r:Nat) (s:Sq) (left:Int→Bool):Prop where
 chg:Chg [] wr wy
 qb:QB wy bs s bm
 mp:MapB wy bm .i64 (fun z=>if left z then none else byF s z)
 g:wr.heap.size≤bs∧wr.heap.size≤bm∧wr.heap.size≤r
 ne:r≠bs∧r≠bm
variable {left:Int→Bool} {s:Sq} {wr wy:World}
theorem CmI.next {wz:World} {bs bm r:Nat} (h:CmI wr wy bs bm r s left) (hc:Chg [r] wy wz):CmI wr wz bs bm r s left :=
 ⟨h.chg.trans hc (fun x hx=>.inr (by obtain rfl:=aa hx;exact h.g.2.2)),aw h.qb hc (by simp;exact fun e=>h.ne.1 e.symm),h.mp.chg hc (by simp;exact fun e=>h.ne.2 e.symm),h.g,h.ne⟩
variable {v:Value}
theorem CmI.step {wz:World} {bs bm r:Nat} (h:CmI wr wy bs bm r s left) {z:Int} (hz:byF s z = some v) (hc:Chg [bm] wy wz) (hm:MapB wz bm .i64 (fun y=>if y = z then some v else if left y then none else byF s y)):CmI wr wz bs bm r s (fun y=>left y && !(y == z)):=by
 refine ⟨h.chg.trans hc (fun x hx=>.inr (by obtain rfl:=aa hx;exact h.g.2.1)),aw h.qb hc (by simp;exact bj h.qb h.mp),?_,h.g,h.ne⟩;have e:(fun y=>if y = z then some v else if left y then none else byF s y) = fun y=>if (left y && !(y == z)) = true then none else byF s y:=by
  funext y;by_cases h1:y = z
  ·subst h1;simp [hz]
  ·simp [h1]
 rw [← e];exact hm
theorem CmI.done {bs bm r:Nat} (h:CmI wr wy bs bm r s left) (hl:∀z,left z = false):MapB wy bm .i64 (byF s):=by have:=h.mp;simpa only [hl,Bool.false_eq_true,if_false] using this
structure CoI (w wr:World) (vo':Value) (L L':List Ob) (t:Nat):Prop where
 sl:SE obl 2 92 wr vo' L'
 len:L'.length = t
 ho:∀(j:Nat) (hj:j < L'.length) (sH:j < L.length),L'[j].h = L[j].h∧L'[j].l = L[j].l∧SB wr L'[j].v L[j].l∧∀k∈own L'[j].v,w.heap.size≤k
 ap:L'.Pairwise fun a b=>∀k∈own a.v,k∉own b.v
 go:∀k∈own vo',w.heap.size≤k
theorem CoI.zero (w wr:World) (L:List Ob):CoI w wr (.slice none 0 0) L [] 0:=⟨SE.nil _ _ _ _,rfl,fun j hj=>(by cases hj),List.Pairwise.nil,fun k hk=>(cw hk).elim⟩
theorem CoI.chg {w wr wx:World} {vo':Value} {L L':List Ob} {t:Nat} (h:CoI w wr vo' L L' t) {F:List Nat} (hc:Chg F wr wx) (h1:∀k∈own vo',k∉F) (h2:∀o∈L',∀k∈own o.v,k∉F):CoI w wx vo' L L' t :=
 ⟨SE.chg h.sl hc h1,h.len,fun j hj sH=>⟨(h.ho j hj sH).1,(h.ho j hj sH).2.1,SE.chg (h.ho j hj sH).2.2.1 hc (h2 _ (ao hj)),(h.ho j hj sH).2.2.2⟩,h.ap,h.go⟩
variable {L':List Ob} {vo':Value}
theorem CoI.stay {wx:World} (h:CoI w wr vo' L L' t) (hc:Chg [] wr wx):CoI w wx vo' L L' t:=h.chg hc (fun _ _ h=>by cases h) (fun _ _ _ _ h=>by cases h)
theorem CoI.step {wx:World} {vo2 u:Value} (h:CoI w wr vo' L L' t) (ht:t < L.length) (hw:w.heap.size≤wr.heap.size) (hc:Chg [] wr wx) (hu:SB wx u L[t].l) (hgu:∀k∈own u,wr.heap.size≤k)
  (kI:Chg (own vo') wx wy) (hs:SE obl 2 92 wy vo2 (L' ++ [⟨L[t].h,L[t].l,u⟩])) (hg:Grow wx vo' vo2):CoI w wy vo2 L (L' ++ [⟨L[t].h,L[t].l,u⟩]) (t+1):=by
 have kG:∀(j:Nat) (hj:j < L'.length),∀k∈own L'[j].v,k < wr.heap.size:=fun j hj k hk=>SE.own_lt (h.ho j hj (by rw [h.len] at hj;omega)).2.2.1 k hk;have hzx:=hc.size;have nov:∀(o:Value) (l:List Nat),SB wx o l→∀k∈own o,k∉own vo':=fun o l mP k hk mG=>by
  obtain ⟨c1,h1⟩:=Sl.blk mP hk;obtain ⟨c2,h2⟩:=Sl.blk (SE.stay h.sl hc) mG;exact Blk.ne_ h1 h2 (by decide) rfl
 refine ⟨hs,by rw [List.length_append,h.len];rfl,fun j hj sH=>?_,?_,fun k hk=>?_⟩
 ·rw [List.length_append,List.length_singleton] at hj;by_cases e:j < L'.length
  ·rw [List.getElem_append_left e];obtain ⟨a1,a2,a3,a4⟩:=h.ho j e sH;exact ⟨a1,a2,SE.chg (SE.stay a3 hc) kI (nov _ _ (SE.stay a3 hc)),a4⟩
  ·have hl:=h.len;obtain rfl:j = t:=(by omega);rw [List.getElem_append_right (by omega)];simp only [hl,Nat.sub_self,List.getElem_singleton];exact ⟨trivial,trivial,SE.chg hu kI (nov _ _ hu),fun k hk=>by have:=hgu k hk;omega⟩
 ·rw [List.pairwise_append];refine ⟨h.ap,List.pairwise_singleton _ _,fun a ha o ho k hk mG=>?_⟩;obtain rfl:=aa ho;obtain ⟨j,hj,rfl⟩:=List.getElem_of_mem ha;have:=kG j hj k hk;have:=hgu k mG;omega
 ·rcases hg k hk with h1 | h1
  ·exact h.go k h1
  ·omega
theorem CoI.end_ {w0:World} (h:CoI w wr vo' L L' L.length) (h0:OIn w0 vo L ob):OIn wr vo' L' ob:=by
 have hl:=h.len;refine ⟨h.sl,fun o ho=>?_,?_,h.ap,fun z=>?_⟩
 ·obtain ⟨j,hj,rfl⟩:=List.getElem_of_mem ho;obtain ⟨a1,a2,a3,a4⟩:=h.ho j hj (by omega);obtain ⟨b1,b2,b3⟩:=h0.bt L[j] (ao (by omega));rw [a1,a2];exact ⟨a3,b2,b3⟩
 ·rw [List.pairwise_iff_getElem];intro i j hi hj qX;rw [(h.ho i hi (by omega)).1,(h.ho j hj (by omega)).1];exact List.pairwise_iff_getElem.1 h0.nd i j _ _ qX
 ·rw [h0.lk];have e:L'.map (fun o=>(o.h,o.l)) = L.map (fun o=>(o.h,o.l)):=by
   refine List.ext_getElem (by simp [hl]) fun i h1 h2=>?_;simp only [List.length_map] at h1 h2;simp only [List.getElem_map,(h.ho i h1 h2).1,(h.ho i h1 h2).2.1]
  have key:∀(l:List Ob),(l.find? fun o=>decide ((o.h:Int) = z)).map (·.l) = ((l.map fun o=>(o.h,o.l)).find? fun q=>decide ((q.1:Int) = z)).map (·.2):=fun l=>by
   induction l with
   | nil=>rfl
   | cons a l ih =>
    rw [List.map_cons,List.find?_cons,List.find?_cons];by_cases e:(a.h:Int) = z
    ·simp [e]
    ·simp only [e,decide_false];exact ih
  rw [key,key,e]
structure BO (l:List (Nat × Value)) (h:Nat) (v:Value):Prop where
 h:Tryz.prog.built 92 l = some #[.int .u64 h,v]
theorem bo_of (h:Nat) (A:Option Addr) (n c:Nat):BO [(0,.int .u64 h),(1,.slice A n c)] h (.slice A n c):=⟨by kernel_rfl⟩
theorem yu {h:Nat} (parts:Array (Nat × Operand)) (ho:o.op = .build 92 parts)
  {l:List (Nat × Value)} (hb:BO l h v) (hl:(parts.map fun (i,x)=>(i,a.eval x)).toList = l) (U:K (a.put o.dst (.agg #[.int .u64 h,v])) w):o.wp Tryz.prog a w K Q :=
 wp_build 92 parts ho (by rw [hl,hb.h];rfl) (by rw [hl,hb.h];exact U)
theorem OB_one (w:World) (h:Nat) (l:List Nat) (v:Value):RE obl 2 (w.alloc (.cells #[.int .u64 h,v] 92)) (.slice (some ⟨w.heap.size,0,none⟩) 1 1) [⟨h,l,v⟩]:=ur w 92 2 1 [.int .u64 h,v] rfl
theorem SW_none (w:World):SW (w.alloc (.cells #[] 37)) (.slice (some ⟨w.heap.size,0,none⟩) 0 0) []:=pf w 37 1
theorem SW.one {l:List Nat} (h:SW w v l):v.oneCell' = true:=by obtain ⟨A,c,e⟩:=SE.form h;rw [e];rfl
theorem SO.one {l:List Ob} (h:SE obl 2 92 w v l):v.oneCell' = true:=by obtain ⟨A,c,e⟩:=SE.form h;rw [e];rfl
def CpyR (w w':World) (M:Mo) (L:List Ob) (E:List Nat) (gs:Nat→Sq) (e:Ending):Prop :=
 ∃b sp' vo' ve' L' gb' gm',e = .returned (.pointer (some ⟨b,0,none⟩))∧WIn w' b M sp' vo' ve' L' E gb' gm' gs∧L'.length = L.length∧∀k,FW' M b vo' ve' L' gb' gm' k→w.heap.size≤k∧k < w'.heap.size
theorem se (h:WIn w m M sp vo ve L E gb gm gs) (oV:MoOk M) (hL:L.length≤500000) (hE:E.length≤500000) :
  Calls Tryz.prog 36 #[.pointer (some ⟨m,0,none⟩)] w fun e w'=>CpyR w w' M L E gs e∧Chg [] w w':=by
 have HI:=bk (fun W (hc:Chg [] w W)=>h.stay hc);have HOV:=bk (SO.one h.ob.sl);have Bp:=bk (SW.one h.ev.sl);have HSPN:=bk h.sp;have rG:=bk h.rng;have ml:=bb h.blk;have HL:=bk hL;have HE:=bk hE;have tA:=bk oV;clear h hL hE oV;go_enter Tryz.func36,Tryz.ntmps36;go_upto_region 2 with (first|refine kz (b:=m) rfl _ rfl rfl (HI.out w (av _ _)).blk ?_|refine zl rfl rfl ?_;intro W1 h1 kO;have H1:=bk h1;have lU:=bk kO;clear h1 kO|refine ke (b:=w.heap.size) (c:=M.c) (sp:=sp) (vo:=vo) (ve:=ve) rfl _ _ rfl rfl rfl HOV.out Bp.out H1.out ?_;intro W2 h2 kI;have H2:=bk h2;have lE:=bk (show Chg [] w W2 from lU.out.trans kI (fun y hy=>.inr (by obtain rfl:=aa hy;exact Nat.le_refl _)));clear h2 kI)
 obtain ⟨b,hb⟩:∃b,b = w.heap.size:=⟨_,rfl⟩;rw [← hb] at H2 ⊢;have HB:=bk hb;clear hb H1 lU;go_upto_region 3 with (fail)
 clear ml;go_loopw [4] (fun iv wr=>∃(t:Nat) (g' m':Nat→Nat),t≤9∧iv = .int .i64 t∧Hid (CwI w wr b M sp vo ve gs t g' m')) (fun iv _=>9 - (intOf iv).toNat)
 case atStart=>exact ⟨0,fun _=>0,fun _=>0,by omega,rfl,bk ⟨lE.out,H2.out,Nat.le_of_eq HB.out.symm,fun j p hj=>by omega,fun j j' p p' hj=>by omega⟩⟩
 case round =>
  obtain ⟨t,g',m',ht,rfl,mJ⟩:=hrel;by_cases h9:t < 9
  ·have dl:decide ((t:Int) < 9) = true:=ae (by omega);have dl':decide (t < 9) = true:=ae h9;have i0:(0:Int)≤(t:Int):=(by omega);have i1:(t:Int) < 9:=(by omega);have oW:IntKind.i64.wrap ((t:Int)+1) = (t:Int)+1:=(by rw [IntKind.wrap_i64];omega);have qs:=WIn.sp_at (HI.out wr mJ.out.chg) h9;have ml:=bb (HI.out wr mJ.out.chg).blk;have H9:=bk h9;have lL:=bk mJ.out;clear mJ ht h9;cases hp:M.pr (t:Int) with
   | none =>
    rw [hp] at qs;have HN:=bk hp;clear hp;go_wp2_with fail;go_roundw
    case rel=>exact ⟨t+1,g',m',H9.out,by go_num,bk (lL.out.skip HN.out (by rw [HSPN.out t H9.out,HN.out];rfl))⟩
    case measure=>have:=H9.out;simp [intOf];omega
   | some p =>
    rw [hp] at qs;have HP:=bk hp;have hpr:=(HI.out wr lL.out.chg).pr t p hp;have HQ:=bk hpr.1;have HM:=bk hpr.2.1;have gl:=bb hpr.1;clear hp hpr;go_upto_region 7 with (first|refine cD (b:=gb t) (s:=gs t) (bm:=gm t) rfl _ rfl rfl HQ.out ?_|refine zj rfl rfl ?_;intro W3 h3 kM Di;have H3:=bk h3;have kL:=bk kM;have HZ3:=bk Di;clear h3 kM Di|refine zp (b:=wr.heap.size) (s:=gs t) (bm:=gm t) rfl _ _ rfl rfl rfl H3.out ?_;intro W4 h4 kZ FR;have H4:=bk h4;have lA:=bk (show Chg [] wr W4 from kL.out.trans kZ (fun y hy=>.inr (by obtain rfl:=aa hy;exact Nat.le_refl _)));have GQ:=bk (show W4.heap.size = wr.heap.size+1 by rw [FR];exact HZ3.out);clear h4 kZ FR)
    obtain ⟨bs,CZ⟩:∃y,y = wr.heap.size:=⟨_,rfl⟩;rw [← CZ] at H4 GQ ⊢;have zR:=bk CZ;clear CZ H3 kL HZ3 qs ml gl;go_upto_region 8 with (first|refine ru (k:=.i64) rfl rfl ?_;intro W5 hm5 kE hz5;have rE:=bk hm5;have kU:=bk kE;have HZ5:=bk hz5;have q5:=QB.bmap (aw H4.out kE ab);have l5:=bb (aw H4.out kE ab);have f5:=Blk.frozen (aw H4.out kE ab) 1024;clear hm5 kE hz5)
    obtain ⟨bm,wF⟩:∃y,y = W4.heap.size:=⟨_,rfl⟩;rw [← wF] at rE HZ5 ⊢;have xU:=bk wF;have hq6:QB (W5.setCell ⟨bs,1024,none⟩ (.map (some bm))) bs (gs t) bm:=QB.set_bm (aw H4.out kU.out ab) bm;have kF:Chg [bs] W5 (W5.setCell ⟨bs,1024,none⟩ (.map (some bm))):=(av [bs] W5).setCell (p:=⟨bs,1024,none⟩) (.inl (by simp)) _;have vQ:(W5.setCell ⟨bs,1024,none⟩ (.map (some bm))).heap.size = W5.heap.size:=oy _ _ _;clear wF q5 l5 f5;generalize W5.setCell ⟨bs,1024,none⟩ (.map (some bm)) = W6 at hq6 kF vQ ⊢;have HQ6:=bk hq6;have mA:=bk (show Chg [] wr W6 from (lA.out.stay kU.out).trans kF (fun y hy=>.inr (by obtain rfl:=aa hy;exact Nat.le_of_eq zR.out.symm)));have BS:=bk (show MapB W6 bm .i64 (fun _=>none) from rE.out.chg kF (by have h1:=zR.out;have h2:=xU.out;have h3:=GQ.out;simp;omega));have Fq:=bk (show W6.heap.size = bm+1 by have h1:=HZ5.out;omega);have Dp:=bk (show bm = bs+1 by have h1:=zR.out;have h2:=xU.out;have h3:=GQ.out;omega);clear hq6 kF vQ H4 lA GQ rE kU HZ5;have hp6:=(HI.out W6 (lL.out.chg.stay mA.out)).pr t p HP.out;have q8:=QB.bmap hp6.1;have l8:=bb hp6.1;have Gu:=bk hp6.2.1;have qs:=WIn.sp_at (HI.out W6 (lL.out.chg.stay mA.out)) H9.out;rw [HP.out] at qs;have ml:=bb (HI.out W6 (lL.out.chg.stay mA.out)).blk;clear hp6;go_upto_region 9 with (first|refine vi (k:=.i64) (b:=gm t) rfl _ rfl Tryz.underlying96 rfl Gu.out ?_;intro W7 n7 Ih kN hz7;have CN:=bk Ih;have qD:=bk kN;have HZ7:=bk hz7;clear Ih kN hz7;try go_simp)
    obtain ⟨r,hr⟩:∃y,y = W6.heap.size:=⟨_,rfl⟩;rw [← hr] at CN ⊢;have HR:=bk (show r = bm+1 by rw [hr];exact Fq.out);have sD:=bk (show CmI wr W7 bs bm r (gs t) (fun z=>(byF (gs t) z).isSome) from ⟨mA.out.stay qD.out,aw HQ6.out qD.out ab,by
     have e:(fun z=>if (byF (gs t) z).isSome = true then none else byF (gs t) z) = fun _=>none:=by
      funext z
      cases byF (gs t) z <;> rfl
     rw [e]
     exact BS.out.stay qD.out,by have h1:=zR.out;have h2:=Dp.out;have h3:=HR.out;omega,by have h1:=zR.out;have h2:=Dp.out;have h3:=HR.out;omega⟩)
    have HGM:=bk (show gm t < wr.heap.size from HM.out.lt);have lT:=bk (show gm t≠r∧gm t≠bm by have h1:=HGM.out;have h2:=zR.out;have h3:=Dp.out;have h4:=HR.out;omega);clear hr q8 l8 qs ml BS HQ6 Gu Fq HZ7;go_loopw [] (fun wy=>∃(left:Int→Bool) (n:Nat),Hid (CmI wr wy bs bm r (gs t) left)∧Hid (MapIt wy (gm t) r .i64 (byF (gs t)) left n)) (fun wy=>bF wy (gm t) r)
    case atStart=>exact ⟨_,_,sD,CN⟩
    case round =>
     obtain ⟨left,n,wK,xL⟩:=hrel;have pD:=xL.out.left_eq;have vT:=bk wK.out;have HITI:=bk xL.out;clear wK xL;go_wp2_with (refine wf rfl _ rfl rfl HITI.out ?_ ?_)
     ·intro h1 h2;have HD:=bk (vT.out.done h2);have hbw:WB wr b M.c (fun j=>if j < t then (M.pr j).map fun _=>g' j else sp j) vo ve:=aw lL.out.blk vT.out.chg ab;have qb:=WB.spc hbw H9.out;have fb:=Blk.frozen hbw (94+t);have lb:=bb hbw;clear h1 h2 pD hbw;go_wp2_with fail;go_roundw
      case rel=>exact ⟨t+1,_,_,H9.out,by go_num,bk (lL.out.step HP.out H9.out vT.out.chg (fun _ h=>by cases h) vT.out.qb HD.out vT.out.g.1 vT.out.g.2.1)⟩
      case measure=>have:=H9.out;simp [intOf];omega
     ·intro z v w' n' h1 h2 h3 h4 h5 h6 h7;have lU:=bk (vT.out.next h5);have HZV:=bk h2;have HIT1:=bk h3;have q1:=QB.bmap lU.out.qb;have l1:=bb lU.out.qb;have kG:=h4;obtain ⟨vz,rfl⟩:∃vz:Nat,v = .int .u8 vz:=by
       have pY:=h2;unfold byF at pY;rw [Option.map_eq_some_iff] at pY;obtain ⟨y,-,hy⟩:=pY;exact ⟨y,hy.symm⟩
      clear h1 h2 h3 h4 h5 h6;go_wp2_with (refine zq (b:=bm) rfl _ _ _ rfl Tryz.underlying96 Tryz.underlying3 rfl rfl rfl lU.out.mp ?_;intro W8 hm8 oE);have BY:=bk (lU.out.step HZV.out oE hm8);have DA:=bk (HIT1.out.chg oE (by simp;exact lT.out.2) (by simp;exact lU.out.ne.2));clear hm8 oE q1 l1;go_roundw
      case rel =>
       (repeat apply Exists.intro);refine ⟨⟨_,_,BY,DA⟩,rfl⟩
      case measure=>rw [pD,DA.out.left_eq];exact kG
  ·obtain rfl:t = 9:=(by omega);have dl:decide (((9:Nat):Int) < 9) = false:=(by decide);have lL:=bk mJ.out;have q1:=WB.voc mJ.out.blk;have l1:=bb mJ.out.blk;have f1:=Blk.frozen mJ.out.blk 103;clear mJ ht h9;go_upto_region 14 with (fail)
   have hbA:=WB.set_vo lL.out.blk (.slice none 0 0);have AE:Chg [b] wr (wr.setCell ⟨b,103,none⟩ (.slice none 0 0)):=(av [b] wr).setCell (p:=⟨b,103,none⟩) (.inl (by simp)) _;clear q1 l1 f1;generalize wr.setCell ⟨b,103,none⟩ (.slice none 0 0) = WA at hbA AE ⊢;have nX:=bk hbA;have pQ:=bk AE;have Du:=bk (show Chg [] w WA from lL.out.chg.trans AE (fun y hy=>.inr (by obtain rfl:=aa hy;exact lL.out.gb)));have HPRA:=bk (show ∀(j:Nat) p,j < 9→M.pr j = some p→QB WA (g' j) (gs j) (m' j)∧MapB WA (m' j) .i64 (byF (gs j))∧w.heap.size≤g' j∧w.heap.size≤m' j from fun j p hj hp=>by
    obtain ⟨c1,c2,c3,c4⟩:=lL.out.pr j p hj hp
    exact ⟨aw c1 AE (by simp;exact fun x=>Blk.ne_ lL.out.blk c1 (by decide) x.symm),c2.chg AE (by simp;exact fun x=>bj lL.out.blk c2 x.symm),c3,c4⟩)
   have Bq:=bk lL.out.ib;have zX:=bk lL.out.gb;clear hbA AE lL;go_upto_region 15 with (fail)
   go_loopw [8] (fun iv wr=>∃(t:Nat) (vo':Value) (L':List Ob),t≤L.length∧iv = .int .i64 t∧Hid (CoI WA wr vo' L L' t)∧Hid (WB wr b M.c (fun j=>if j < 9 then (M.pr j).map fun _=>g' j else sp j) vo' ve)∧Hid (Chg [b] WA wr)) (fun iv _=>L.length - (intOf iv).toNat)
   case atStart=>exact ⟨0,_,[],by omega,rfl,bk (CoI.zero _ _ _),nX,bk (av _ _)⟩
   case round =>
    obtain ⟨t,vo',L',ht,rfl,hco,hwb,lN⟩:=hrel;have wY:=bk hco.out;have Cb:=bk hwb.out;have oN:=bk (show Chg [] w wr from Du.out.trans lN.out (fun y hy=>.inr (by obtain rfl:=aa hy;exact zX.out)));have qU:=bk lN.out;have hI:=HI.out wr oN.out;have Fo:=bk hI.ob.sl.re;obtain ⟨A,c,sL⟩:=SE.form hI.ob.sl;have sF:=bk sL;have q:=WB.voc hI.blk;rw [sL] at q;have ml:=bb hI.blk;have DF:=bk (SE.max hI.ob.sl);clear hco hwb lN hI sL;by_cases kG:t < L.length
    ·have dl:decide ((t:Int) < (L.length:Int)) = true:=ae (by omega);have dl':decide (t < L.length) = true:=ae kG;have i0:(0:Int)≤(t:Int):=(by omega);have i1:(t:Int) < (L.length:Int):=(by omega);have oW:IntKind.i64.wrap ((t:Int)+1) = (t:Int)+1:=(by rw [IntKind.wrap_i64];have:=HL.out;omega);have kR:=bk kG;obtain ⟨zh,xS⟩:∃z:Nat,z = L[t].h:=⟨_,rfl⟩;obtain ⟨u,hu⟩:∃u,u = L[t].v:=⟨_,rfl⟩;obtain ⟨B,hB⟩:∃B,B = L[t].l:=⟨_,rfl⟩;have mP:=((HI.out wr oN.out).ob.bt L[t] (ao kG)).1;rw [← hu,← hB] at mP;have rK:=Fo.out;rw [sF.out] at rK;obtain ⟨g,off,rfl⟩:=RE.addr rK (show 0 < L.length by omega);have HZH:=bk (ai xS (ai hu hB));have sE:=bk (fun W (hc:Chg [] wr W)=>SE.stay mP hc);have GL:=bk (fun W (hc:Chg [] wr W)=>RE.stay rK hc);have zP:=bk (show B.length≤128 from by have h1:=(HI.out wr oN.out).ob.at_ kG;rw [hB];exact (tA.out.ob _ _ h1).2);clear xS hu hB mP rK ht kG;go_upto_region 17 with (fail)
     clear q ml;refine rgt [0,5,0,0,0,5,0,0,0,5,6,0,0,0,5,0,0,0,5,6,0,6,3,0,3] [none,none,none,none,none,none,none,none,none,none,none,none,none,none,none,none,none,none,none,none,none,none,none,none,none] (fun W=>Chg [] wr W) ?_;have hS:Chg [] wr wr.drew:=(av [] wr).drew;generalize wr.drew = W5 at hS ⊢;have yT:=bk (fun W (h:Chg [] wr W)=>(gt Tryz.underlying77 (WB.voc (aw Cb.out h ab)):(loadVar 77 ⟨b,103,none⟩).run Tryz.prog W = .ok vo' W));have tH:=bk (fun W (h:Chg [] wr W)=>(gt Tryz.underlying77 (by rw [← sF.out];exact WB.voc (HI.out W (oN.out.stay h)).blk):(loadVar 77 ⟨m,103,none⟩).run Tryz.prog W = .ok (.slice (some ⟨g,off,none⟩) L.length c) W));have yU:=bk (fun W (h:Chg [] wr W)=>(dg Tryz.underlying37 (by rw [HZH.out.1];simpa using RE.cell mj (GL.out W h) kR.out (j:=0) (u:=.int .u64 L[t].h) (by omega) rfl):(loadVar 37 ⟨g,off+t * 2,none⟩).run Tryz.prog W = .ok (.int .u64 zh) W));have HL4:=bk (fun W (h:Chg [] wr W)=>(gt Tryz.underlying38 (by rw [HZH.out.2.1];exact RE.cell mj (GL.out W h) kR.out (j:=1) (u:=L[t].v) (by omega) rfl):(loadVar 38 ⟨g,off+t * 2+1,none⟩).run Tryz.prog W = .ok u W));have lb:=bb (aw Cb.out hS ab);have ml:=bb (HI.out W5 (oN.out.stay hS)).blk;go_wp2_with (first|refine ca 77 _ rfl rfl yT.out hS ?_|refine ca 77 _ rfl rfl tH.out hS ?_|refine ca 37 _ rfl rfl yU.out hS ?_|refine ca 38 _ rfl rfl HL4.out hS ?_|refine cdA fun K U=>?_|refine bn fun K U=>?_;go_simp|refine bq ?_);(refine cd hS fun K U=>?_);go_simp;obtain ⟨W6,pN⟩:∃W,W = W5.alloc (.cells #[] 5):=⟨_,rfl⟩;have kF:Chg [] W5 W6:=(by rw [pN];exact (av [] _).alloc _);have rZ:SB W6 (.slice (some ⟨W5.heap.size,0,none⟩) 0 0) []:=by rw [pN];exact pd W5
     try rw [← pN]
     obtain ⟨b9,mT⟩:∃y,y = W5.heap.size:=⟨_,rfl⟩;rw [← mT] at rZ ⊢;have tW:=bk (show wr.heap.size≤b9 by have:=hS.size;omega);have tJ:=bk rZ;replace hS:Chg [] wr W6:=hS.stay kF;refine U _ _ hS ?_;clear U K pN mT kF rZ ml lb;have lb:=bb (aw Cb.out hS ab);have ml:=bb (HI.out W6 (oN.out.stay hS)).blk;go_wp2_with (first|refine ca 77 _ rfl rfl yT.out hS ?_|refine ca 77 _ rfl rfl tH.out hS ?_|refine ca 37 _ rfl rfl yU.out hS ?_|refine ca 38 _ rfl rfl HL4.out hS ?_|refine cdA fun K U=>?_|refine bn fun K U=>?_;go_simp|refine bq ?_);obtain ⟨Au,cu,rfl⟩:∃A c,u = .slice A B.length c:=SE.form (sE.out wr (av _ _));(refine cd hS fun K U=>?_);refine ko _ _ rfl (.slice (some ⟨b9,0,none⟩) 0 0) (.slice Au B.length cu) rfl rfl (l:=[]) (m:=B) tJ.out (sE.out W6 hS).re (by have:=zP.out;simp;omega) ?_;have pW:wr.heap.size≤W6.heap.size:=hS.size;intro A7 n7 c7 W7 vD tS kN tN;replace hS:Chg [] wr W7:=hS.trans kN (fun y hy=>.inr (by rw [fd] at hy;obtain rfl:=aa hy;exact tW.out));refine U _ _ hS ?_;rw [List.nil_append] at vD tS;have qN:=bk tS;have vI:=bk (show ∀i∈own (.slice A7 n7 c7),wr.heap.size≤i from fun i hi=>by
      rcases tN i hi with h1 | h1
      ·rw [fd] at h1;obtain rfl:=aa h1;exact tW.out
      ·exact au pW h1)
     have Bn:=bk (bo_of zh A7 n7 c7);clear U K pW tS kN tN tJ vD ml lb;have lb:=bb (aw Cb.out hS ab);go_wp2_with (first|refine vn fun K U=>?_;refine yu _ rfl Bn.out ?_ ?_;(focus (simp [Act.eval];done));refine U _ _ ?_;clear U K|refine cdA fun K U=>?_|refine bn fun K U=>?_;go_simp|refine bq ?_);(refine cd hS fun K U=>?_);go_simp;obtain ⟨W8,hW8⟩:∃W,W = W7.alloc (.cells #[.int .u64 zh,.slice A7 n7 c7] 92):=⟨_,rfl⟩;have oE:Chg [] W7 W8:=(by rw [hW8];exact (av [] _).alloc _);have hr8:RE obl 2 W8 (.slice (some ⟨W7.heap.size,0,none⟩) 1 1) [⟨zh,B,.slice A7 n7 c7⟩]:=by rw [hW8];exact OB_one W7 zh B _
     try rw [← hW8]
     obtain ⟨b10,uW⟩:∃y,y = W7.heap.size:=⟨_,rfl⟩;rw [← uW] at hr8 ⊢;have HR8:=bk hr8;have DH:=bk (SE.stay qN.out oE);replace hS:Chg [] wr W8:=hS.stay oE;refine U _ _ hS ?_;clear U K hW8 uW oE hr8 lb;have lb:=bb (aw Cb.out hS ab);have mR:=bk hS;have HCO8:=bk (wY.out.stay hS);obtain ⟨Ao,co,rfl⟩:=SE.form wY.out.sl;have vB:L'.length = t:=wY.out.len;rw [vB];have Fg:=bk vB;have yC:=bk (show SE obl 2 92 W8 (.slice Ao t co) L' from by have:=HCO8.out.sl;rw [vB] at this;exact this);clear vB;(refine dy fun K U=>?_);refine mb _ _ rfl (.slice Ao t co) (.slice (some ⟨b10,0,none⟩) 1 1) rfl rfl yC.out HR8.out (fun o ho=>by obtain rfl:=aa ho;rfl) (by have h1:=Fg.out;have h2:=HL.out;have h3:=kR.out;simp;omega) ?_;intro A9 n9 c9 W9 nQ mY lC oF;have Bf:WB W9 b M.c (fun j=>if j < 9 then (M.pr j).map fun _=>g' j else sp j) (.slice Ao L'.length co) ve:=aw (aw Cb.out hS ab) lC (fun hk=>SE.not_blk yC.out (aw Cb.out hS ab) (by decide) hk);have q9:=WB.voc Bf;have l9:=bb Bf;have f9:=Blk.frozen Bf 103;have DN:=bk Bf;have BL:=bk (show CoI WA W9 (.slice A9 n9 c9) L (L' ++ [⟨L[t]'kR.out |>.h,L[t]'kR.out |>.l,.slice A7 n7 c7⟩]) (t+1) from by
      have e1:=HZH.out.1
      have e2:=HZH.out.2.2
      rw [e1,e2] at mY
      refine wY.out.step kR.out qU.out.size mR.out (by have h:=DH.out;rw [e2] at h;exact h) vI.out (by rw [Fg.out];exact lC) mY (by rw [Fg.out];exact oF))
     have mM:=bk (show Chg [b] WA W9 from (qU.out.stay mR.out).trans lC (fun y hy=>.inr (wY.out.go y (by rw [Fg.out];exact hy))));refine U _ _ ?_;clear U K nQ mY lC oF Bf hS lb;go_upto_region 16 with (first|refine cdA fun K U=>?_|refine bn fun K U=>?_;go_simp|refine bq ?_)
     have uW:=WB.set_vo DN.out (.slice A9 n9 c9);have Ei:Chg [b] W9 (W9.setCell ⟨b,103,none⟩ (.slice A9 n9 c9)):=(av [b] W9).setCell (p:=⟨b,103,none⟩) (.inl (by simp)) _;have Hr:=BL.out.chg Ei (fun y hy=>by simp;exact fun e=>SE.not_blk BL.out.sl DN.out (by decide) (e ▸ hy)) (fun o ho y hy=>by
      obtain ⟨j,hj,rfl⟩:=List.getElem_of_mem ho
      simp
      exact fun e=>SE.not_blk (BL.out.ho j hj (by have h1:=BL.out.len;have h2:=kR.out;omega)).2.2.1 DN.out (by decide) (e ▸ hy))
     have HX1:=bk uW;have uC:=bk Hr;have uU:=bk (mM.out.and_ Ei);clear q9 l9 f9 uW Ei Hr;go_wp2_with fail;go_roundw
     case rel =>
      (repeat apply Exists.intro);refine ⟨⟨t+1,_,_,kR.out,?_,uC,HX1,uU⟩,rfl⟩;go_num
     case measure=>have:=kR.out;simp [intOf];omega
    ·obtain rfl:t = L.length:=(by omega);have dl:decide (((L.length:Nat):Int) < (L.length:Int)) = false:=ac (by omega);have Gk:=bk (HI.out wr oN.out).ev.sl.re;obtain ⟨Ae,ce,FO⟩:=RE.form Gk.out;have HVE:=bk FO;have HSWN:=bk (SW_none wr);have nP:Chg [] wr (wr.alloc (.cells #[] 37)):=(av [] wr).alloc _;have Gf:=bk nP;have vW:=bk (show RE wcl 1 (wr.alloc (.cells #[] 37)) (.slice Ae E.length ce) E from by have:=RE.stay Gk.out nP;rw [FO] at this;exact this);have xX:=bk (show ([]:List Nat).length+E.length≤1000000 by have:=HE.out;simp;omega);have q2:=WB.vec (HI.out _ (oN.out.stay nP)).blk;rw [FO] at q2;have ml2:=bb (HI.out _ (oN.out.stay nP)).blk;clear kG ht FO nP Fo;go_upto_region 19 with (first|at_builtin;refine we rfl _ _ rfl (.slice (some ⟨wr.heap.size,0,none⟩) 0 0) (.slice Ae E.length ce) rfl rfl (l:=[]) (m:=E) HSWN.out vW.out xX.out ?_;intro A9 n9 c9 W9 nQ mY lC oF;rw [List.nil_append] at mY;have HS9:=bk mY;have HG9:=bk oF;have mM:=bk (show Chg [] wr W9 from Gf.out.trans lC (fun y hy=>.inr (by rw [fd] at hy;obtain rfl:=aa hy;exact Nat.le_refl _)));have mT:=aw Cb.out mM.out ab;have q9:=WB.vec mT;have l9:=bb mT;have f9:=Blk.frozen mT 104;clear nQ mY lC oF mT)
     have mT:WB W9 b M.c (fun j=>if j < 9 then (M.pr j).map fun _=>g' j else sp j) vo' ve:=aw Cb.out mM.out ab;have Cn:=WB.set_ve mT (.slice A9 n9 c9);have wM:Chg [b] W9 (W9.setCell ⟨b,104,none⟩ (.slice A9 n9 c9)):=(av [b] W9).setCell (p:=⟨b,104,none⟩) (.inl (by simp)) _;clear q9 l9 f9;generalize W9.setCell ⟨b,104,none⟩ (.slice A9 n9 c9) = Wz at Cn wM ⊢;have HZB:=bk Cn;have HZC:=bk wM;have tW:=bk mT;clear mT Cn wM;go_wp2_with fail;go_ret;have oF:∀i∈own (.slice A9 n9 c9),WA.heap.size≤i:=fun i hi=>by
      have h0:=qU.out.size;rcases HG9.out i hi with h1 | h1
      ·rw [fd] at h1;obtain rfl:=aa h1;exact h0
      ·have:=Gf.out.size;omega
     have AE:Chg [b] WA Wz:=(qU.out.stay mM.out).and_ HZC.out;have hzA:=Du.out.size;have EY:=AE.size;have Co:CoI WA Wz vo' L L' L.length:=(wY.out.stay mM.out).chg HZC.out (fun y hy=>by simp;exact fun e=>SE.not_blk (wY.out.stay mM.out).sl tW.out (by decide) (e ▸ hy)) (fun o ho y hy=>by
      obtain ⟨j,hj,rfl⟩:=List.getElem_of_mem ho
      simp
      exact fun e=>SE.not_blk ((wY.out.stay mM.out).ho j hj (by have h1:=wY.out.len;omega)).2.2.1 tW.out (by decide) (e ▸ hy))
     have ID:SW Wz (.slice A9 n9 c9) E:=SE.chg HS9.out HZC.out (fun y hy=>by simp;exact fun e=>SE.not_blk HS9.out tW.out (by decide) (e ▸ hy));have EB:∀(j:Nat) p,j < 9→M.pr j = some p→QB Wz (g' j) (gs j) (m' j)∧MapB Wz (m' j) .i64 (byF (gs j))∧w.heap.size≤g' j∧w.heap.size≤m' j:=fun j p hj hp=>by
      obtain ⟨c1,c2,c3,c4⟩:=HPRA.out j p hj hp;exact ⟨aw c1 AE (by simp;exact fun x=>Blk.ne_ nX.out c1 (by decide) x.symm),c2.chg AE (by simp;exact fun x=>bj nX.out c2 x.symm),c3,c4⟩
     have h9:∀(j:Nat) p,M.pr (j:Int) = some p→j < 9:=fun j p hp=>by have:=rG.out _ p hp;omega
     refine ⟨⟨b,_,vo',.slice A9 n9 c9,L',g',m',rfl,⟨HZB.out,Co.end_ (HI.out w (av _ _)).ob,⟨ID,(HI.out w (av _ _)).ev.e64,(HI.out w (av _ _)).ev.lk⟩,fun j hj=>ah hj,rG.out,fun j p hp=>?_,fun j j' p p' hp oP kT=>Bq.out j j' p p' (h9 j p hp) (h9 j' p' oP) hp oP kT⟩,wY.out.len,fun k hk=>?_⟩,Du.out.trans AE (fun y hy=>.inr (by obtain rfl:=aa hy;exact zX.out))⟩
     ·obtain ⟨c1,c2,-,-⟩:=EB j p (h9 j p hp) hp;exact ⟨c1,c2,((HI.out w (av _ _)).pr j p hp).2.2⟩
     ·rcases hk with rfl | hk | hk | ⟨o,ho,hk⟩ | ⟨j,p,hp,rfl | rfl⟩
      ·exact ⟨zX.out,bb HZB.out⟩
      ·have h1:=Co.go k hk;exact ⟨by omega,SE.own_lt Co.sl k hk⟩
      ·have h1:=oF k hk;exact ⟨by omega,SE.own_lt ID k hk⟩
      ·obtain ⟨j,hj,rfl⟩:=List.getElem_of_mem ho;obtain ⟨-,-,c3,c4⟩:=Co.ho j hj (by have h1:=wY.out.len;omega);have h1:=c4 k hk;exact ⟨by omega,SE.own_lt c3 k hk⟩
      ·obtain ⟨c1,c2,c3,c4⟩:=EB j p (h9 j p hp) hp;exact ⟨c3,bb c1⟩
      ·obtain ⟨c1,c2,c3,c4⟩:=EB j p (h9 j p hp) hp;exact ⟨c4,c2.lt⟩
