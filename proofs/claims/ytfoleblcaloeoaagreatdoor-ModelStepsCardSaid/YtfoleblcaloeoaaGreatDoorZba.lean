import Derived.Test.YtfoleblcaloeoaaGreatDoorZaz
set_option maxHeartbeats 40000000
set_option maxRecDepth 20000
namespace Go.Proofs.YtfoleblcaloeoaaGreatDoor
open Go Go.RowKit
def IC (W:World) (b n:Nat):Prop:=∀k,k < n→∃v:Int,-9223372036854775808≤v∧v≤9223372036854775807∧W.cell? ⟨b,k,none⟩ = some (.int .i64 v)
variable {W:World}
theorem IC.stay {W':World} {b n:Nat} (h:IC W b n) (hc:Chg [] W W'):IC W' b n:=fun k hk=>by
 obtain ⟨v,h1,h2,h3⟩:=h k hk
 exact ⟨v,h1,h2,hc.cell h3 ab⟩
theorem w64 (z:Int):-9223372036854775808≤wrap64 z∧wrap64 z≤9223372036854775807:=by unfold wrap64;omega
theorem IC.new (W:World) (l:List Int) (hl:∀y∈l,-9223372036854775808≤y∧y≤9223372036854775807):IC (W.alloc (.cells (l.map fun (y:Int)=>Value.int .i64 y).toArray 3)) W.heap.size l.length:=fun k hk=>by
 refine ⟨l[k],(hl _ (ao hk)).1,(hl _ (ao hk)).2,?_⟩
 rw [(ax W 3 _).cell]
 simp [hk]
variable {M:Mo}
theorem byA_off {z a:Int} (h:rtA M z (a / 256) = 0):byA M z a = 0:=by
 unfold byA;unfold rtA at h;cases hp:M.pr z with
 | none=>rfl
 | some p=>rw [hp] at h;exact ah h
variable {gs:List (Option (Nat × Bool))} {Q:Exit→Act→World→Prop} {S:World→Prop}
theorem sj {P:Program} {o:Oper} {rest:List Oper} {ks:List Nat} {a:Act} {w:World} (f t:TypeId) (x:Operand) (ho:o.op = .convert f t x) {u v:Value} (hx:a.eval x = u) (hv:∀w',S w'→(convert f t u).run P w' = .ok v w') (hS:S w) (h:wpG P S Q rest ks gs (a.put o.dst v) w) :
  wpG P S Q (o :: rest) (5 :: ks) (none :: gs) a w:=by
 refine yi hS v (fun w' kK=>?_) h;unfold StillAt execOp;simp [ho,hx,hv w' kK,Sem.run_bind]
structure HK (W:World) (A:Option Addr) (n c k:Nat) (M:Mo) (S0:Nat):Prop where
 sl:∃l:List Nat,l.length = n∧SE wdl 1 37 W (.slice A n c) l∧(∀j (h:j < l.length),k≤j→(M.ob (l[j]:Nat)).isSome = true)∧∀j (h:j < l.length),j < k→l[j] = 0
 nw:∀y∈own (.slice A n c),S0≤y
theorem HK.chg {W W':World} {A:Option Addr} {n c k:Nat} {M:Mo} {S0:Nat} (h:HK W A n c k M S0) {F:List Nat} (hc:Chg F W W') (hF:∀y∈own (.slice A n c),y∉F):HK W' A n c k M S0:=by obtain ⟨⟨l,h1,h2,h3⟩,h4⟩:=h;exact ⟨⟨l,h1,h2.chg hc hF,h3⟩,h4⟩
variable {S0:Nat} {A:Option Addr}
theorem HK.lt {n c k:Nat} (h:HK W A n c k M S0):∀y∈own (.slice A n c),y < W.heap.size:=by obtain ⟨⟨l,h1,h2,h3⟩,h4⟩:=h;exact h2.own_lt
theorem HK.at_ {n c k:Nat} (h:HK W A n c k M S0) (hk:k < n):∃g off X,A = some ⟨g,off,none⟩∧(M.ob (X:Nat)).isSome = true∧W.cell? ⟨g,off+k,none⟩ = some (.int .u64 (X:Nat))∧(∀j,j < k→W.cell? ⟨g,off+j,none⟩ = some (.int .u64 0))∧W.frozen? ⟨g,off+k,none⟩ = false ∧
  HK (W.setCell ⟨g,off+k,none⟩ (.int .u64 0)) A n c (k+1) M S0:=by
 obtain ⟨⟨l,rfl,h2,h3,h4⟩,h5⟩:=h;obtain ⟨g,off,rfl⟩:=SE.addr h2 (by omega);have nW:∀j (hj:j < l.length),W.cell? ⟨g,off+j,none⟩ = some (.int .u64 (l[j]:Nat)):=fun j hj=>by
  have:=RE.cell xa (SE.re h2) hj (j:=0) (u:=.int .u64 (l[j]:Nat)) Nat.zero_lt_one rfl;simpa using this
 refine ⟨g,off,l[k],rfl,h3 k hk (Nat.le_refl _),nW k hk,fun j hj=>by rw [nW j (by omega),h4 j (by omega) hj];rfl,SE.frozen h2 _,⟨l.set k 0,by simp,?_,fun j hj qY=>?_,fun j hj hjk=>?_⟩,h5⟩
 ·have:=SE.set xa h2 hk (j:=0) (u:=.int .u64 ((0:Nat):Int)) (x:=0) Nat.zero_lt_one rfl;simpa using this
 ·have sH:j < l.length:=by simpa using hj
  rw [List.getElem_set_ne (by omega)];exact h3 j sH (by omega)
 ·by_cases e:j = k
  ·subst e;simp
  ·rw [List.getElem_set_ne (by omega)];exact h4 j (by simpa using hj) (by omega)
theorem bne0 (R:Int):(R != 0) = decide (R≠0):=by rw [Bool.eq_iff_iff];simp
theorem neq_ptr (sa:Option Addr) (W:World):(binOp .neq 75 (.pointer sa) (.pointer none)).run Tryz.prog W = .ok (.bool sa.isSome) W:=by
 cases sa with
 | none=>kernel_rfl
 | some a=>kernel_rfl
theorem same_law {W0 w:World} {m d:Nat} {N:Nat} {O P:Nat→Prop} (h:MW W0 w m d M M N O P) (hN:N≤100) (hz:EvZ M) {x:Cl} {v:Value} (hx:x.Ok) :
  Calls Tryz.prog 13 #[.pointer (some ⟨m,0,none⟩),.pointer (some ⟨d,0,none⟩),.agg (clc x v)] w fun e w'=>e = .returned (.bool true)∧Chg [] w w':=by
 obtain ⟨bp,bo,be,fp,fo,fe,gb',GF,ov,hI,-,-⟩:=h.mm;obtain ⟨sp,vo,ve,L,E,gb,gm,gs,hW,-,-,Cg,-⟩:=h.wn;obtain ⟨W1,kP⟩:∃W1,W1 = w.alloc (.cells (clc x v) 47):=⟨_,rfl⟩;have c01:Chg [] w W1:=by rw [kP];exact (av [] w).alloc _
 have hKB:KB W1 w.heap.size x v:=by rw [kP];exact ax w _ _
 have HI:=bk (fun W (h:Chg [] W1 W)=>(show MIn W m M bp bo be fp fo fe gb' GF ov from hI.cp (CP.of0 (F:=fun _=>False) (c01.stay h)) (fun _ _ h=>h)));have HW:=bk (fun W (h:Chg [] W1 W)=>hW.stay (c01.stay h));have mC:=bk (fun W (h:Chg [] W1 W)=>bh hKB h);have oX:=bk h.ok;have Bp:=bk (ai h.ev hz);have HX:=bk hx;have xX:=bk (show L.length≤100 by omega);have qC:=bk c01;have mH:=bk kP;obtain ⟨b5,qQ⟩:∃y,y = w.heap.size:=⟨_,rfl⟩;rw [← qQ] at mC;have oB:=bk qQ;clear h hN hz hx hI hW Cg c01 hKB kP qQ;go_enter Tryz.func13,Tryz.ntmps13;go_upto_region 1 with (first|refine cc rfl _ rfl rfl ?_;try rw [← mH.out];try rw [← oB.out])
 go_wp2_with fail;go_loopw [7] (fun t wr=>∃z:Int,-1≤z∧z≤10∧t = .int .i64 z∧Hid (Chg [] W1 wr)) (fun t _=>(10 - intOf t).toNat)
 case atStart=>exact ⟨-1,by omega,by omega,rfl,bk (av _ _)⟩
 case round =>
  obtain ⟨z,IL,CJ,rfl,hC⟩:=hrel;by_cases kG:z≤9
  ·have d0:decide (z≤9) = true:=ae kG;have HZ:=bk (show -1≤z∧z≤9 by omega);have z1:-1≤z:=IL;clear IL CJ;go_wp2_with fail;refine (zw (HW.out _ hC.out) z).mono ?_;rintro e wr' ⟨rfl,rfl⟩;obtain ⟨sa,EG⟩:∃sa:Option Addr,sa = (M.pr z).map fun _=>⟨gb z.toNat,0,none⟩:=⟨_,rfl⟩;rw [← EG];have hss:sa.isSome = (M.pr z).isSome:=(by rw [EG];cases M.pr z <;> rfl);have Iq:=fun W=>neq_ptr sa W;rw [hss] at Iq;have HH:=bk (aY (HI.out _ hC.out) z);obtain ⟨zb,hzb⟩:∃zb,zb = (M.pr z).isSome:=⟨_,rfl⟩;rw [← hzb] at Iq HH;have BX:=bk (ai EG hzb);clear EG hzb hss;go_wp2_with fail;refine HH.out.mono ?_;rintro e wr' ⟨rfl,rfl⟩;obtain ⟨-,-,-,q3,q4,q5,-,-,-,-,-,-,q12,-⟩:=ay (mC.out wr hC.out);have yL:=IC.new wr [x.g,wrap64 (x.g+x.c),wrap64 (x.a.tdiv 256),0,1023,1024,-1] (fun y hy=>by
    simp only [List.mem_cons,ab,or_false] at hy
    rcases hy with rfl | rfl | rfl | rfl | rfl | rfl | rfl
    ·exact HX.out.g
    ·exact w64 _
    ·exact w64 _
    all_goals omega)
   obtain ⟨b9,mT⟩:∃y,y = wr.heap.size:=⟨_,rfl⟩;go_upto_region 8 with (fail)
   have nP:Chg [] wr (wr.alloc (.cells #[.int .i64 x.g,.int .i64 (wrap64 (x.g+x.c)),.int .i64 (wrap64 (x.a.tdiv 256)),.int .i64 0,.int .i64 1023,.int .i64 1024,.int .i64 (-1)] 3)):=(av [] wr).alloc _;rw [← mT] at yL ⊢;replace yL:IC (wr.alloc (.cells #[.int .i64 x.g,.int .i64 (wrap64 (x.g+x.c)),.int .i64 (wrap64 (x.a.tdiv 256)),.int .i64 0,.int .i64 1023,.int .i64 1024,.int .i64 (-1)] 3)) b9 7:=yL;generalize wr.alloc (.cells #[.int .i64 x.g,.int .i64 (wrap64 (x.g+x.c)),.int .i64 (wrap64 (x.a.tdiv 256)),.int .i64 0,.int .i64 1023,.int .i64 1024,.int .i64 (-1)] 3) = Wa at yL nP ⊢;have pQ:=bk (hC.out.stay nP);have HIC:=bk (fun W (h:Chg [] Wa W)=>yL.stay h);clear yL nP mT q3 q4 q5 q12 HH;go_wp2_with fail;go_loopw [58] (fun t W=>∃k:Nat,k≤7∧t = .int .i64 (k:Nat)∧Hid (Chg [] Wa W)) (fun t _=>7 - (intOf t).toNat)
   case atStart=>exact ⟨0,by omega,rfl,bk (av _ _)⟩
   case round =>
    obtain ⟨k,hk,rfl,hc⟩:=hrel;by_cases hk7:k < 7
    ·as_aux_lemma =>
     obtain ⟨p,zH,qG,qp⟩:=HIC.out _ hc.out k hk7;have d1:decide ((k:Int) < 7) = true:=ae (by omega);have d2:decide (k < 7) = true:=ae hk7;have HK:=bk hk7;have k0:(0:Int)≤(k:Int):=(by omega);have k7:(k:Int) < 7:=(by omega);obtain ⟨R,hR⟩:∃R,R = rtA M z p:=⟨_,rfl⟩;obtain ⟨zok,EW⟩:∃y,y = decide (R≠0):=⟨_,rfl⟩;obtain ⟨zt,EX⟩:∃y,y = decide ((M.pr z).isSome = true∧0≤p∧p < 1024):=⟨_,rfl⟩;obtain ⟨ka,Et⟩:∃y:Nat,y = (if (M.pr z).isSome = true∧0≤p∧p < 1024 then (poA M z p).1 else 0):=⟨_,rfl⟩;obtain ⟨kb,lM⟩:∃y:Nat,y = (if (M.pr z).isSome = true∧0≤p∧p < 1024 then (poA M z p).2 else 0):=⟨_,rfl⟩;have yX:=bk (fun W (h:Chg [] W1 W)=>xd (HI.out W h) z p);have uT:=bk (fun W (h:Chg [] W1 W)=>eO (HI.out W h) z p);rw [← hR,← EW] at yX;rw [← Et,← lM,← EX] at uT;have hbn:(R != 0) = zok:=(by rw [EW];exact bne0 R);have HR:=bk (ai hR (ai EX (ai Et lM)));clear hk hk7 hR EW EX Et lM zH qG;go_wp2_with fail;refine (yX.out _ (pQ.out.stay hc.out)).mono ?_;rintro e V1 ⟨rfl,kO⟩;have lU:=bk (hc.out.stay kO);clear kO qp;go_wp2_with fail;refine (uT.out _ (pQ.out.stay lU.out)).mono ?_;rintro e V2 ⟨rfl,kI⟩;have lE:=bk (lU.out.stay kI);clear kI;obtain ⟨b14,Hd⟩:∃y,y = V2.heap.size:=⟨_,rfl⟩;have E14:=bk Hd;clear Hd;go_upto_region 14 with (first|refine fk rfl rfl ?_;intro V3 h4 kM;rw [← E14.out];rw [← E14.out] at h4;have H4:=bk h4;have kL:=bk kM;clear h4 kM|refine ej (b:=b14) (k':=ka) (m':=kb) rfl _ _ rfl rfl rfl H4.out ?_;intro V4 h5 kZ;have H5:=bk h5;have lA:=bk (kL.out.trans kZ (fun y hy=>.inr (by obtain rfl:=aa hy;exact Nat.le_of_eq E14.out.symm)));clear h5 kZ)
     obtain ⟨b17,He⟩:∃y,y = V4.heap.size:=⟨_,rfl⟩;have E17:=bk He;clear He;go_upto_region 15 with (first|refine fk rfl rfl ?_;intro V5 h6 kE;rw [← E17.out];rw [← E17.out] at h6;have H6:=bk h6;have kU:=bk kE;clear h6 kE|refine ej (b:=b17) (k':=0) (m':=0) rfl _ _ rfl rfl rfl H6.out ?_;intro V6 h7 kF;have H7:=bk h7;have mA:=bk (kU.out.trans kF (fun y hy=>.inr (by obtain rfl:=aa hy;exact Nat.le_of_eq E17.out.symm)));clear h7 kF)
     have Dl:=bk (H5.out.chg mA.out ab);have pX:=bk ((lE.out.stay lA.out).stay mA.out);have lT:=bk (show V2.heap.size≤b14∧b14≠b17∧Wa.heap.size≤b17 by
      have h0:=E14.out
      have h4:=E17.out
      have h1:=H5.out.lt
      have h2:=lE.out.size
      have h3:=lA.out.size
      omega)
     clear H4 H5 H6 lU lE kL lA kU E14 E17;have HQ7:=H7;go_upto_region 15 with (fail)
     try go_simp
     go_cut [18] from 59 to 131 (fun t W=>t = .bool zt∧W = V6)
     case first =>
      cases zb with
      | false =>
       have e:zt = false:=(by rw [HR.out.2.1,← BX.out.2];simp);subst e;go_wp2_with fail;go_meet
       case rel=>exact ⟨rfl,rfl⟩
      | true =>
       by_cases p0:0≤p
       ·have d3:decide (0≤p) = true:=ae p0;have e:zt = decide (p < 1024):=(by rw [HR.out.2.1,← BX.out.2];simp [p0]);cases hp9:decide (p < 1024) with
        | true =>
         rw [hp9] at e;subst e;go_wp2_with fail;go_meet
         case rel=>exact ⟨rfl,rfl⟩
        | false =>
         rw [hp9] at e;subst e;go_wp2_with fail;go_meet
         case rel=>exact ⟨rfl,rfl⟩
       ·have d3:decide (0≤p) = false:=ac p0;have e:zt = false:=(by rw [HR.out.2.1];exact ac (fun h=>p0 h.2.1));subst e;go_wp2_with fail;go_meet
        case rel=>exact ⟨rfl,rfl⟩
     case rest =>
      obtain ⟨rfl,rfl⟩:=hcut;go_upto_if 90 with (fail)
      go_cut [16] from 59 to 131 (fun t W=>t = .int .u8 R∧Hid (PolB W b14 ka kb)∧Hid (PolB W b17 ka kb)∧Hid (Chg [] Wa W))
      case first =>
       cases zt with
       | false =>
        have nG:¬ ((M.pr z).isSome = true∧0≤p∧p < 1024):=of_decide_eq_false HR.out.2.1.symm;obtain rfl:R = 0:=(by rw [HR.out.1];exact wt oX.out nG);obtain rfl:ka = 0:=(by rw [HR.out.2.2.1,ag nG]);obtain rfl:kb = 0:=(by rw [HR.out.2.2.2,ag nG]);clear nG;go_wp2_with fail;go_meet
        case rel=>exact ⟨rfl,Dl,HQ7,pX⟩
       | true =>
        have nG:(M.pr z).isSome = true∧0≤p∧p < 1024:=of_decide_eq_true HR.out.2.1.symm;cases hp:M.pr z with
        | none=>rw [hp] at nG;exact absurd nG.1 (by decide)
        | some pr =>
         have Cx:=(oX.out.pr z pr hp).1;obtain ⟨n,rfl⟩:∃n:Nat,z = (n:Int):=⟨z.toNat,by omega⟩;obtain ⟨i,rfl⟩:∃i:Nat,p = (i:Int):=⟨p.toNat,by omega⟩;have hi:i < 1024:=(by omega);have QF:=bk (fun W (h:Chg [] Wa W)=>(HW.out W (pQ.out.stay h)).pr n pr hp);obtain rfl:sa = some ⟨gb n,0,none⟩:=(by rw [BX.out.1,hp];simp);have hrel:=(QF.out wc pX.out).2.2;have r1:wc.cell? ⟨gb n,i,none⟩ = some (.int .u8 R):=by
          rw [QB.rt (QF.out wc pX.out).1 hi,hrel.rt i hi,HR.out.1];unfold rtA;rw [hp]
         have l1:=bb (QF.out wc pX.out).1;have EA:ka = (ku pr i).1∧kb = (ku pr i).2:=by
          rw [HR.out.2.2.1,HR.out.2.2.2,ah nG,ah nG];unfold poA;rw [hp];exact ⟨rfl,rfl⟩
         have rI:=xz (QF.out wc pX.out).1;rw [hrel.ak,hrel.am] at rI;obtain ⟨ak,Fu⟩:∃y:Nat,y = pr.pk:=⟨_,rfl⟩;obtain ⟨am,ham⟩:∃y:Nat,y = pr.pm:=⟨_,rfl⟩;rw [← Fu,← ham] at rI;have i0:(0:Int)≤(i:Int):=(by omega);have i1:(i:Int) < 1024:=(by omega);have GC:=bk (show (pr.ow i = none→ka = ak∧kb = am)∧(∀u,pr.ow i = some u→ka = u.1∧kb = u.2) by
          rw [EA.1,EA.2,Fu,ham]
          unfold ku
          exact ⟨fun h=>by rw [h];exact ⟨rfl,rfl⟩,fun u h=>by rw [h];exact ⟨rfl,rfl⟩⟩)
         have tX:=bk hi;have Ah:=bk (show (gs n).ow i = (pr.ow i).isSome∧∀u,pr.ow i = some u→(gs n).po i = u from ⟨hrel.ow i hi,fun u h=>hrel.po i hi u h⟩);clear nG Cx hrel EA Fu ham hi hp;go_upto_region 19 with (first|refine em (ty:=45) (ad:=⟨gb n,4097,none⟩) (v:=.agg #[.int .u8 ak,.int .u8 am]) rfl _ rfl rfl ?_ ?_;(focus exact rI)|refine ej (b:=b17) (k':=ak) (m':=am) rfl _ _ rfl rfl rfl H7.out ?_;intro V7 h9 lC;have HV7:=bk h9;have zU:=bk (pX.out.trans lC (fun y hy=>.inr (by obtain rfl:=aa hy;exact lT.out.2.2)));have Gc:=bk (Dl.out.chg lC (by simp;exact lT.out.2.1));clear h9 lC)
         clear r1 l1 rI;have r2:=QB.ow (QF.out V7 zU.out).1 tX.out;have l2:=bb (QF.out V7 zU.out).1;rw [Ah.out.1] at r2;cases hw:pr.ow i with
         | none =>
          rw [hw] at r2;obtain ⟨rfl,rfl⟩:=GC.out.1 hw;clear hw
          try go_simp
          go_wp2_with fail;go_meet
          case rel=>exact ⟨rfl,Gc,HV7,zU⟩
         | some u =>
          obtain ⟨u1,u2⟩:=u;rw [hw] at r2;have EC:=aM (QF.out V7 zU.out).1 tX.out;rw [Ah.out.2 _ hw] at EC;obtain ⟨rfl,rfl⟩:=GC.out.2 _ hw;clear hw
          try go_simp
          go_wp2_with (first|refine em (ty:=45) (ad:=⟨gb n,2049+i * 2,none⟩) (v:=.agg #[.int .u8 ka,.int .u8 kb]) rfl _ rfl rfl ?_ ?_;(focus exact EC)|refine ej (b:=b17) (k':=ka) (m':=kb) rfl _ _ rfl rfl rfl HV7.out ?_;intro V8 h9 lC;have HV8:=bk h9;have HCV8:=bk (zU.out.trans lC (fun y hy=>.inr (by obtain rfl:=aa hy;exact lT.out.2.2)));have HBV8:=bk (Gc.out.chg lC (by simp;exact lT.out.2.1));clear h9 lC);go_meet
          case rel=>exact ⟨rfl,HBV8,HV8,HCV8⟩
      case rest =>
       clear Dl HQ7 pX;obtain ⟨rfl,HA14,HA17,Bm⟩:=hcut;have vN:(loadVar 45 ⟨b14,0,none⟩).run Tryz.prog wc = .ok (.agg #[.int .u8 ka,.int .u8 kb]) wc:=run_loadVar_row wc b14 45 45 _ (0,0) _ HA14.out Tryz.underlying45 rfl kv;have Eu:(loadVar 45 ⟨b17,0,none⟩).run Tryz.prog wc = .ok (.agg #[.int .u8 ka,.int .u8 kb]) wc:=run_loadVar_row wc b17 45 45 _ (0,0) _ HA17.out Tryz.underlying45 rfl kv;have yI:∀W,(Op.equalIn 10000 45 (.agg #[.int .u8 ka,.int .u8 kb]) (.agg #[.int .u8 ka,.int .u8 kb])).run Tryz.prog W = .ok true W:=fun W=>by rw [show true = ((ka:Int) == (ka:Int) && (kb:Int) == (kb:Int)) by simp];exact pp W _ _ _ _
       go_wp2_with (first|refine rq (ty:=45) (ad:=⟨b14,0,none⟩) (v:=.agg #[.int .u8 ka,.int .u8 kb]) _ rfl rfl ?_ ?_ ?_;(focus (simp [Region.wanted,yielded,Act.put];done));(focus exact vN)|refine rq (ty:=45) (ad:=⟨b17,0,none⟩) (v:=.agg #[.int .u8 ka,.int .u8 kb]) _ rfl rfl ?_ ?_ ?_;(focus (simp [Region.wanted,yielded,Act.put];done));(focus exact Eu));go_roundw
       case rel=>exact ⟨k+1,by have:=HK.out;omega,by go_num,Bm⟩
       case measure=>have:=HK.out;simp [intOf];omega
    ·obtain rfl:k = 7:=(by omega);clear hk hk7;have mJ:=pQ.out.stay hc.out;obtain ⟨-,-,-,-,-,q5,-,-,-,-,-,-,q12,-⟩:=ay (mC.out wr mJ);have yL:=IC.new wr [x.a,wrap64 (x.a+1),wrap64 (x.a+7),-1,262144] (fun y hy=>by
      simp only [List.mem_cons,ab,or_false] at hy
      rcases hy with rfl | rfl | rfl | rfl | rfl
      ·exact HX.out.a
      ·exact w64 _
      ·exact w64 _
      all_goals omega)
     obtain ⟨b19,Hf⟩:∃y,y = wr.heap.size:=⟨_,rfl⟩;have E19:=bk Hf;clear Hf;have lL:=bk mJ;clear mJ;go_upto_region 25 with (fail)
     have nP:Chg [] wr (wr.alloc (.cells #[.int .i64 x.a,.int .i64 (wrap64 (x.a+1)),.int .i64 (wrap64 (x.a+7)),.int .i64 (-1),.int .i64 262144] 3)):=(av [] wr).alloc _;rw [← E19.out] at yL ⊢;replace yL:IC (wr.alloc (.cells #[.int .i64 x.a,.int .i64 (wrap64 (x.a+1)),.int .i64 (wrap64 (x.a+7)),.int .i64 (-1),.int .i64 262144] 3)) b19 5:=yL;generalize wr.alloc (.cells #[.int .i64 x.a,.int .i64 (wrap64 (x.a+1)),.int .i64 (wrap64 (x.a+7)),.int .i64 (-1),.int .i64 262144] 3) = Wc at yL nP ⊢;have qU:=bk (lL.out.stay nP);have HIC5:=bk (fun W (h:Chg [] Wc W)=>yL.stay h);clear yL nP q5 q12 lL hc HIC E19;go_wp2_with fail;go_loopw [144] (fun t W=>∃k:Nat,k≤5∧t = .int .i64 (k:Nat)∧Hid (Chg [] Wc W)) (fun t _=>5 - (intOf t).toNat)
     case atStart=>exact ⟨0,by omega,rfl,bk (av _ _)⟩
     case round =>
      obtain ⟨k,hk,rfl,hc⟩:=hrel;by_cases vA:k < 5
      ·as_aux_lemma =>
       obtain ⟨p,zH,qG,qp⟩:=HIC5.out _ hc.out k vA;have d1:decide ((k:Int) < 5) = true:=ae (by omega);have d2:decide (k < 5) = true:=ae vA;have HK:=bk vA;have k0:(0:Int)≤(k:Int):=(by omega);have k5:(k:Int) < 5:=(by omega);obtain ⟨B,hB⟩:∃B:Int,B = (if p < 0 then (0:Int) else (byA M z p:Nat)):=⟨_,rfl⟩;obtain ⟨zt,EX⟩:∃y,y = decide (0≤p∧rtA M z (p / 256)≠0):=⟨_,rfl⟩;have Gd:=bk (fun W (h:Chg [] W1 W)=>Byte_any (HI.out W h) z qG);rw [← hB,← EX] at Gd;have HR:=bk (ai hB (ai EX qG));clear hk vA hB EX zH qG;go_wp2_with fail;refine (Gd.out _ (qU.out.stay hc.out)).mono ?_;rintro e V1 ⟨rfl,kO⟩;have lU:=bk (hc.out.stay kO);have qp1:=kO.cell qp ab;clear kO qp;go_upto_region 30 with (fail)
       try go_simp
       go_cut [24] from 145 to 195 (fun t W=>t = .bool zt∧W = V1)
       case first =>
        clear qp1;cases zb with
        | false =>
         have e:zt = false:=by
          rw [HR.out.2.1];refine ac (fun h=>h.2 (wt oX.out fun h2=>?_));rw [← BX.out.2] at h2;exact absurd h2.1 (by decide)
         subst e;go_wp2_with fail;go_meet
         case rel=>exact ⟨rfl,rfl⟩
        | true =>
         have pS:=BX.out.2;cases hp:M.pr z with
         | none=>rw [hp] at pS;exact absurd pS (by decide)
         | some pr =>
          have Cx:=(oX.out.pr z pr hp).1;obtain ⟨n,rfl⟩:∃n:Nat,z = (n:Int):=⟨z.toNat,by omega⟩;have QF:=bk (fun W (h:Chg [] Wc W)=>(HW.out W (qU.out.stay h)).pr n pr hp);obtain rfl:sa = some ⟨gb n,0,none⟩:=(by rw [BX.out.1,hp];simp);have l1:=bb (QF.out V1 lU.out).1;by_cases p0:0≤p
          ·have d3:decide (0≤p) = true:=ae p0;by_cases p9:p < 262144
           ·have d4:decide (p < 262144) = true:=ae p9;obtain ⟨i,hi⟩:∃i:Nat,(i:Int) = p / 256:=⟨(p / 256).toNat,by omega⟩;have hi4:i < 1024:=(by omega);have hq0:p.tdiv 256 = (i:Int):=(by rw [hi,Int.tdiv_eq_ediv_of_nonneg p0]);obtain ⟨R,hR⟩:∃R,R = rtA M n (p / 256):=⟨_,rfl⟩;have hbn:(R != 0) = zt:=by
             rw [HR.out.2.1,← hR,bne0];simp [p0]
            have r1:V1.cell? ⟨gb n,i,none⟩ = some (.int .u8 R):=by
             rw [QB.rt (QF.out V1 lU.out).1 hi4,(QF.out V1 lU.out).2.2.rt i hi4,hR,← hi];unfold rtA;rw [hp]
            have i0:(0:Int)≤(i:Int):=(by omega);have i1:(i:Int) < 1024:=(by omega);clear hR hi hi4 hp Cx p0 p9 pS;go_wp2_with fail;go_meet
            case rel=>exact ⟨rfl,rfl⟩
           ·have d4:decide (p < 262144) = false:=ac p9;have e:zt = false:=by
             rw [HR.out.2.1];exact ac (fun h=>h.2 (wt oX.out fun h2=>by omega))
            subst e;clear hp Cx p0 p9 pS;go_wp2_with fail;go_meet
            case rel=>exact ⟨rfl,rfl⟩
          ·have d3:decide (0≤p) = false:=ac p0;have e:zt = false:=by
            rw [HR.out.2.1];exact ac (fun h=>p0 h.1)
           subst e;clear hp Cx p0 pS;go_wp2_with fail;go_meet
           case rel=>exact ⟨rfl,rfl⟩
       case rest =>
        obtain ⟨rfl,rfl⟩:=hcut;go_upto_if 181 with (fail)
        go_cut [25] from 145 to 195 (fun t W=>t = .int .u8 B∧Hid (Chg [] Wc W))
        case first =>
         clear qp1;cases zt with
         | false =>
          have h0:¬ (0≤p∧rtA M z (p / 256)≠0):=of_decide_eq_false HR.out.2.1.symm;obtain rfl:B = 0:=by
           rw [HR.out.1];split
           ·rfl
           ·have:rtA M z (p / 256) = 0:=Classical.byContradiction fun h=>h0 ⟨by omega,h⟩;rw [byA_off this];rfl
          clear h0;go_wp2_with fail;go_meet
          case rel=>exact ⟨rfl,lU⟩
         | true =>
          have h0:0≤p∧rtA M z (p / 256)≠0:=of_decide_eq_true HR.out.2.1.symm;have h1:(M.pr z).isSome = true∧0≤p / 256∧p / 256 < 1024:=Classical.byContradiction fun h=>h0.2 (wt oX.out h);have pS:=h1.1.symm;cases hp:M.pr z with
          | none=>rw [hp] at pS;exact absurd pS (by decide)
          | some pr =>
           have Cx:=(oX.out.pr z pr hp).1;obtain ⟨n,rfl⟩:∃n:Nat,z = (n:Int):=⟨z.toNat,by omega⟩;have QF:=bk (fun W (h:Chg [] Wc W)=>(HW.out W (qU.out.stay h)).pr n pr hp);obtain rfl:sa = some ⟨gb n,0,none⟩:=(by rw [BX.out.1,hp];simp);have l1:=bb (QF.out wc lU.out).1;have q6:=QB.bmap (QF.out wc lU.out).1;have hB:B = (((gs n).by_ p).getD 0:Nat):=by
            rw [HR.out.1,ag (by omega),(QF.out wc lU.out).2.2.by_ p h0.1 (by omega)];unfold byA;have h3:=h0.2;unfold rtA at h3;rw [hp] at h3 ⊢;simp only at h3 ⊢;rw [ag h3]
           have qE:(Instr.lookup 96 (.map (some (gm n))) (.int .i64 p) false).run Tryz.prog wc = .ok (.int .u8 B) wc:=by
            rw [hB];cases hb:(gs n).by_ p with
            | some y=>exact fh Tryz.underlying96 Tryz.underlying3 (QF.out wc lU.out).2.1 (by unfold byF;rw [hb];rfl) false
            | none=>exact fg Tryz.underlying96 Tryz.underlying3 (QF.out wc lU.out).2.1 (by unfold byF;rw [hb];rfl) (zero5 wc) false
           clear hB h0 h1 hp Cx pS;go_wp2_with fail;go_meet
           case rel=>exact ⟨rfl,lU⟩
        case rest =>
         clear lU qp1;obtain ⟨rfl,lU⟩:=hcut;go_wp2_with fail;go_roundw
         case rel =>
          (repeat apply Exists.intro);exact ⟨⟨k+1,by have:=HK.out;omega,by go_num,lU⟩,rfl⟩
         case measure=>have:=HK.out;simp [intOf];omega
      ·obtain rfl:k = 5:=(by omega);clear hk vA;have d1:decide (((5:Nat):Int) < 5) = false:=(by decide);have oM:=bk (qU.out.stay hc.out);go_wp2_with fail;go_roundw
       case rel=>exact ⟨z+1,by have:=HZ.out;omega,by have:=HZ.out;omega,by go_num,oM⟩
       case measure=>have:=HZ.out;simp [intOf];omega
  ·obtain rfl:z = 10:=(by omega);have HO:=bk ((HW.out _ hC.out).ob);clear IL CJ kG;go_wp2_with fail;refine (cK (HI.out _ hC.out) (fun z hz=>HO.out.nat hz) (fun ks hn hk=>by have:=HO.out.card hn hk;have:=xX.out;omega)).mono ?_;rintro e V1 ⟨⟨A,n,c,l,ks,rfl,hs,hn,hiff,kQ,kY,pC⟩,kO⟩;have hnL:n = L.length:=by
    obtain ⟨A',c',e'⟩:=hs.form;injection e' with _ e2 _;rw [e2,kQ,HO.out.card_eq hn hiff]
   have lU:=bk (hC.out.stay kO);have HKS:=bk (show HK V1 A n c 0 M W1.heap.size from ⟨⟨l,by rw [kQ,HO.out.card_eq hn hiff,hnL],hs,fun j hj _=>kY _ (ao hj),fun j _ h=>absurd h (by omega)⟩,fun y hy=>by have:=pC y hy;have:=hC.out.size;omega⟩);obtain ⟨A2,c2,sL⟩:=(HO.out.sl).form;have sF:=bk sL;have q1:=WB.voc (HW.out V1 lU.out).blk;have l1:=bb (HW.out V1 lU.out).blk;rw [sL] at q1;have n1:(n:Int)≤100:=(by have:=xX.out;omega);rw [← hnL] at q1;have HNL:=bk hnL;clear hs hn hiff kQ kY pC kO sL hnL hC;go_wp2_with fail;go_loopw [209] (fun t W=>∃k:Nat,k≤n∧t = .int .i64 (k:Nat)∧Hid (Chg [] W1 W)∧Hid (HK W A n c k M W1.heap.size)) (fun t _=>n - (intOf t).toNat)
   case atStart=>exact ⟨0,by omega,rfl,lU,HKS⟩
   case round =>
    clear lU HKS q1 l1;obtain ⟨k,hk,rfl,hC,hKS⟩:=hrel;by_cases sU:k < n
    ·as_aux_lemma =>
     obtain ⟨g,off,X,rfl,hX,q1,q0,f1,Ir⟩:=hKS.out.at_ sU;have d1:decide ((k:Int) < (n:Int)) = true:=ae (by omega);have d2:decide (k < n) = true:=ae sU;have k0:(0:Int)≤(k:Int):=(by omega);have k1:(k:Int) < (n:Int):=(by omega);have Gr:=bk sU;have mN:=bk hX;have CW:=bk (show X≠0 from fun e=>ob_nz Bp.out.1 Bp.out.2 hX (by omega));have HNX:=bk Ir;have HQ0:=bk q0;clear hk sU hX Ir q0;go_wp2_with fail;refine (tr (HW.out _ hC.out) X).mono ?_;rintro e W2 ⟨hfd,rfl⟩;obtain ⟨j,rfl,hj,hjx⟩:∃j:Nat,e = .returned (.int .i64 j)∧∃hk:j < L.length,L[j].h = X:=by
      rcases hfd with ⟨-,h2⟩ | h2
      ·obtain ⟨j,hj,e2⟩:=HO.out.of_ mN.out;exact absurd (by omega) (h2 _ (ao hj))
      ·exact h2
     clear hfd;go_wp2_with fail;have xZ:=eN (HI.out _ hC.out) X;rw [mN.out] at xZ;refine xZ.mono ?_;rintro e V3 ⟨⟨Ab,nb,cb,rfl,mP,BB⟩,kM⟩;clear xZ;have hB:(M.ob (X:Nat)).getD [] = L[j].l:=(by rw [← hjx,HO.out.at_ hj];rfl);rw [hB] at mP;have kL:=bk (hC.out.stay kM);have hO3:=(HW.out V3 kL.out).ob;obtain ⟨g2,off2,rfl⟩:∃g2 off2,A2 = some ⟨g2,off2,none⟩:=by
      have h:=hO3.sl;rw [sF.out] at h;exact SE.addr h (by have:=Gr.out;have:=HNL.out;omega)
     obtain ⟨lH,lV,-⟩:=hO3.bt L[j] (ao hj);obtain ⟨A3,c3,hv3⟩:=SE.form lH;have qv:V3.cell? ⟨g2,off2+j * 2+1,none⟩ = some (.slice A3 L[j].l.length c3):=by
      have h:=hO3.sl;rw [sF.out] at h;rw [← hv3];exact RE.cell mj (SE.re h) hj (j:=1) (by omega) rfl
     have qo:=WB.voc (HW.out V3 kL.out).blk;have lo:=bb (HW.out V3 kL.out).blk;rw [sF.out,← HNL.out] at qo;rw [hv3] at lH;have Cq:(convert 38 9 (.slice Ab nb cb)).run Tryz.prog V3.drew = .ok (.string (ft L[j].l)) V3.drew:=nr (w:=V3.drew) (SE.re mP) lV;have AH:(convert 38 9 (.slice A3 L[j].l.length c3)).run Tryz.prog V3.drew = .ok (.string (ft L[j].l)) V3.drew:=nr (w:=V3.drew) (SE.re lH) lV;obtain ⟨Sb,hSb⟩:∃Sb,Sb = ft L[j].l:=⟨_,rfl⟩;rw [← hSb] at Cq AH;obtain ⟨n3,hn3⟩:∃y,y = L[j].l.length:=⟨_,rfl⟩;rw [← hn3] at qv AH;have q13:=kM.cell q1 ab;have j0:(0:Int)≤(j:Int):=(by omega);have j1:(j:Int) < (n:Int):=(by have:=HNL.out;omega);have j2:decide ((j:Int) < 0) = false:=ac (by omega);have x1:decide ((X:Int)≤0) = false:=ac (by have:=CW.out;omega);have x2:¬ X = 0:=CW.out;have sE:=bk (ai mP (ai BB lV));have Gh:=bk (show ∀y∈own (.slice (some ⟨g,off,none⟩) n c),y∉own (.slice Ab nb cb) from fun y hy ET=>by have:=hKS.out.lt y hy;have:=BB y ET;omega);have zX:=bk (show ∀y∈own (.slice Ab nb cb),W1.heap.size≤y from fun y hy=>by have:=BB y hy;have:=hC.out.size;omega);have nb1:(nb:Int)≤128:=by
      obtain ⟨A',c',e'⟩:=SE.form mP;injection e' with _ e2 _;have:=(oX.out.ob X L[j].l (by rw [← hjx];exact HO.out.at_ hj)).2;omega
     have uR:=bk (hKS.out.chg kM (fun _ _=>ab));have HQ3:=bk (fun i hi=>kM.cell (HQ0.out i hi) ab);clear hB mP BB hO3 lH lV hv3 hSb hn3 hjx kM q1 f1;go_upto_region 45 with (fail)
     try go_simp
     go_cut [262] from 210 to 262 (fun t W=>t = .bool false∧W = V3.drew)
     case first =>
      rcases Nat.eq_zero_or_pos k with rfl | hkp
      ·refine rgt [0,0,0,0,0,0,0,0,5,0,0,0,1,0,0,0,1,5,0,0,0,0,0,0,0,0,0,0,1,0,0,0,1,0,0,0] [none,none,none,some (229,false),some (229,false),none,none,some (233,false),some (233,false),some (233,false),some (233,false),some (233,false),some (233,false),some (233,false),some (233,false),some (233,false),some (233,false),some (233,false),some (233,false),none,none,some (247,false),some (247,false),some (247,false),some (250,true),some (250,true),some (250,true),some (250,true),some (250,true),some (250,true),some (250,true),some (250,true),some (250,true),some (250,true),some (247,false),none] (fun W=>W = V3.drew) ?_;go_wp2_with (first|refine sj 38 9 _ rfl rfl (fun w' kK=>by rw [kK];exact Cq) rfl ?_|refine sj 38 9 _ rfl rfl (fun w' kK=>by rw [kK];exact AH) rfl ?_|refine cdA fun K U=>?_|refine cx ?_;go_simp|refine cy ?_|refine bn fun K U=>?_;go_simp|refine bq ?_);go_meet
       case rel=>exact ⟨rfl,rfl⟩
      ·obtain ⟨i,rfl⟩:∃i,k = i+1:=⟨k - 1,by omega⟩;have q9:=HQ3.out i (by omega);have d9:decide ((0:Int) < (i:Int)+1) = true:=ae (by omega);have i9:(0:Int)≤(i:Int)+1:=(by omega);have k9:(i:Int)+1 < (n:Int):=(by have:=Gr.out;omega);have k8:(i:Int) < (n:Int):=(by omega);refine rgt [0,0,0,0,0,0,0,0,5,0,0,0,1,0,0,0,1,5,0,0,0,0,0,0,0,0,0,0,1,0,0,0,1,0,0,0] [none,none,none,some (229,false),some (229,false),none,none,some (233,false),some (233,false),some (233,false),some (233,false),some (233,false),some (233,false),some (233,false),some (233,false),some (233,false),some (233,false),some (233,false),some (233,false),none,none,some (247,false),some (247,false),some (247,false),some (250,true),some (250,true),some (250,true),some (250,true),some (250,true),some (250,true),some (250,true),some (250,true),some (250,true),some (250,true),some (247,false),none] (fun W=>W = V3.drew) ?_;go_wp2_with (first|refine sj 38 9 _ rfl rfl (fun w' kK=>by rw [kK];exact Cq) rfl ?_|refine sj 38 9 _ rfl rfl (fun w' kK=>by rw [kK];exact AH) rfl ?_|refine cdA fun K U=>?_|refine cx ?_;go_simp|refine cy ?_|refine bn fun K U=>?_;go_simp|refine bq ?_);go_meet
       case rel=>exact ⟨rfl,rfl⟩
     case rest =>
      obtain ⟨rfl,rfl⟩:=hcut;clear Cq AH qv qo lo q13 j0 j1 j2 x1 x2;have HBK:=bk (show ∃B:List Nat,B.length = nb∧SB V3.drew (.slice Ab nb cb) B from by
       obtain ⟨A',c',e'⟩:=SE.form sE.out.1
       injection e' with _ e2 _
       exact ⟨L[j].l,e2.symm,sE.out.1⟩)
      have oM:=bk ((av (own (.slice Ab nb cb)) V3).drew);go_wp2_with fail;go_loopw [265] (fun t W=>∃q:Nat,q≤nb∧t = .int .i64 (q:Nat)∧Hid (∃B:List Nat,B.length = nb∧SB W (.slice Ab nb cb) B)∧Hid (Chg (own (.slice Ab nb cb)) V3 W)) (fun t _=>nb - (intOf t).toNat)
      case atStart=>exact ⟨0,by omega,rfl,HBK,oM⟩
      case round =>
       clear HBK oM;obtain ⟨q,hq,rfl,hB,wI⟩:=hrel;by_cases BG:q < nb
       ·obtain ⟨B,Ce,wB⟩:=hB.out;obtain ⟨g3,off3,rfl⟩:=SE.addr wB (by omega);obtain ⟨y,hy⟩:∃y:Nat,y = B[q]'(by omega):=⟨_,rfl⟩;have q8:wr.cell? ⟨g3,off3+q,none⟩ = some (.int .u8 (y:Nat)):=by
         have:=RE.cell gk (SE.re wB) (show q < B.length by omega) (j:=0) (u:=.int .u8 (y:Nat)) Nat.zero_lt_one (by rw [hy];rfl);simpa using this
        have f8:=SE.frozen wB (off3+q);obtain ⟨y',Bj⟩:∃y':Nat,IntKind.u8.wrap ((y:Int)+1) = (y':Int):=⟨(IntKind.u8.wrap ((y:Int)+1)).toNat,by rw [IntKind.wrap_u8];omega⟩;have BY:=bk (show SB (wr.setCell ⟨g3,off3+q,none⟩ (.int .u8 (y':Nat))) (.slice (some ⟨g3,off3,none⟩) nb cb) (B.set q y') from by
         have:=SE.set gk wB (show q < B.length by omega) (j:=0) (u:=.int .u8 (y':Nat)) (x:=y') Nat.zero_lt_one rfl
         simpa using this)
        have zP:=bk (ai Ce BG);have d3:decide ((q:Int) < (nb:Int)) = true:=ae (by omega);have d4:decide (q < nb) = true:=ae BG;have i3:(0:Int)≤(q:Int):=(by omega);have i4:(q:Int) < (nb:Int):=(by omega);clear Ce wB hy BG hq hB;go_wp2_with fail;go_roundw
        case rel=>exact ⟨q+1,by have:=zP.out;omega,by go_num,bk ⟨_,by have:=zP.out;simp;omega,BY.out⟩,bk (wI.out.setCell (p:=⟨g3,off3+q,none⟩) (.inl (by simp [own,Value.ownBlock])) _)⟩
        case measure=>have:=zP.out;simp [intOf];omega
       ·obtain rfl:q = nb:=(by omega);have d3:decide (((q:Nat):Int) < (q:Int)) = false:=ac (by omega);have xA:=bk (uR.out.chg wI.out Gh.out);have kU:=bk (kL.out.trans wI.out (fun y hy=>.inr (zX.out y hy)));obtain ⟨g',off',X',e',-,q7,-,f7,vD⟩:=xA.out.at_ Gr.out;injection e' with e';injection e' with e1 e2;subst e1;subst e2;have HN7:=bk vD;clear vD hq BG hB;go_wp2_with fail;go_roundw
        case rel=>exact ⟨k+1,by have:=Gr.out;omega,by go_num,bk (kU.out.setCell (p:=⟨g,off+k,none⟩) (.inr (HN7.out.nw g (by simp [own,Value.ownBlock]))) _),HN7⟩
        case measure=>have:=Gr.out;simp [intOf];omega
    ·obtain rfl:k = n:=(by omega);have d1:decide (((k:Nat):Int) < (k:Int)) = false:=ac (by omega);clear hk sU;go_wp2_with fail;go_ret;exact ⟨rfl,qC.out.stay hC.out⟩
