/- Texts merged for the claim. -/
import Derived.Test.YtfoleblcaloeoaaGreatDoorZbw
set_option maxHeartbeats 40000000
set_option maxRecDepth 20000
namespace Go.Proofs.YtfoleblcaloeoaaGreatDoor
open Go Go.RowKit
theorem ansR_l (M:Mo) (x:Cl) (f h:Nat):(gf M x f).l = (gf M x h).l:=by
 unfold gf
 split
 ·rfl
 split <;> rfl
theorem ansR_10 {M:Mo} {x:Cl} (kK:x.k = 10) (h f:Nat) (he:(gf M x h).e = 0):ci M.c x = false∧(⟨(gf M x h).e,f,(gf M x h).l⟩:Rs) = gf M x f:=by
 unfold gf at he ⊢
 by_cases hw:ci M.c x = true
 ·rw [if_pos hw] at he
  exact absurd (show (2:Int) = 0 from he) (by decide)
 ·rw [if_neg hw,if_neg hw,if_pos kK,if_pos kK]
  exact ⟨by simpa using hw,rfl⟩
theorem fH {M:Mo} {x:Cl} (h:Nat) (he:¬ (x.k = 10∧(gf M x h).e = 0)):ci M.c x = false→x.k = 10→h≠0∧M.ev h = false:=fun hw kK=>by
 refine absurd ⟨kK,?_⟩ he
 unfold gf
 rw [if_neg (by rw [hw];decide),if_pos kK]
theorem RB.cpo {F:Nat→Prop} {w w':World} {v:Value} {l:List Nat} (h:RB w v l) (hc:CP F w w') (hF:∀k∈own v,¬ F k):RB w' v l:=by
 by_cases hl:l = []
 ·subst hl
  obtain ⟨h1,A',c',e',Ak,oG⟩:=h
  exact ⟨h1,A',c',e',Ak,fun h=>absurd h (by simp)⟩
 ·have jF:=RB.own_lt h hl
  obtain ⟨G,g1,g2⟩:=hc.avoid (own v) hF jF
  exact RE.chg h g1 g2
theorem cC {w:World} (hf:FW w) (c:Cf) {l:List Tw} {vl:Value} (Bl:RE twl 17 w vl l) (tG:∀t∈l,TwOk w t) :
  Calls Tryz.prog 4 #[.agg (cg c),vl] w fun e w'=>e = .returned (.bool true)∧Chg [] w w':=by
 obtain ⟨A1,c1,rfl⟩:=RE.form Bl
 obtain ⟨W1,jG⟩:∃W1,W1 = w.alloc (.cells (cg c) 26):=⟨_,rfl⟩
 have c01:Chg [] w W1:=by rw [jG];exact (Chg.refl [] w).alloc _
 have xA:CB W1 w.heap.size c:=by rw [jG];exact Blk.new w 26 _
 have HF:=ah (hf.stay c01)
 have HM:=ah (fun W=>tg c W)
 have HN:=ah (fun W=>rNew_any c W)
 have HK:=ah (fun W (h:Chg [] W1 W)=>iB (hf.stay (c01.stay h)))
 have HT:=ah (tame_any (Bl.stay c01) (fun t ht=>(tG t ht).stay c01) (n:=40) (by omega))
 have BF:=ah (fun W (h:Chg [] W1 W)=>RE.stay Bl (c01.stay h))
 have Ea:=ah (fun W (h:Chg [] W1 W) t ht=>(tG t ht).stay (c01.stay h))
 have rP:=ah (fun W (h:Chg [] W1 W)=>(Blk.chg xA h ab:CB W w.heap.size c))
 have pX:=ah c01
 have AC:=ah (Chg.refl [] W1)
 have kW:=ah jG
 clear hf c01 xA Bl tG jG
 go_enter Tryz.func4,Tryz.ntmps4
 go_upto_region 1 with (first|refine cb rfl _ rfl rfl ?_;try rw [← kW.out])
 go_wp2_with fail
 refine HT.out.mono ?_
 rintro e W1' ⟨rfl,rfl⟩
 cases htm:xf l 40 with
 | false =>
  clear htm
  have HC:=AC
  go_wp2_with fail
  refine (HK.out _ HC.out).mono ?_
  rintro e W9 ⟨rfl,kE⟩
  go_wp2_with fail
  go_ret
  exact ⟨rfl,pX.out.stay (HC.out.stay kE)⟩
 | true =>
 have HTM:=ah htm
 clear htm
 go_wp2_with (first|refine mb (b:=w.heap.size) (c:=c) _ rfl rfl ?_ (rP.out _ AC.out) ?_;(focus (simp [Region.wanted,yielded,Act.put];done)))
 refine (HM.out _).mono ?_
 rintro e V2 ⟨rfl,jA⟩
 have jU:=ah (AC.out.stay jA)
 clear jA
 cases hm:mayB c with
 | false =>
  clear hm
  have HC:=jU
  go_wp2_with fail
  refine (HK.out _ HC.out).mono ?_
  rintro e W9 ⟨rfl,kE⟩
  go_wp2_with fail
  go_ret
  exact ⟨rfl,pX.out.stay (HC.out.stay kE)⟩
 | true =>
 have nP:=ah hm
 clear hm
 go_wp2_with (first|refine cw (b:=w.heap.size) (c:=c) rfl _ rfl rfl ?_ ?_;(focus exact rP.out _ jU.out))
 refine (fG nP.out).mono ?_
 rintro e V3 ⟨⟨m,rfl,O0,h1,h2⟩,jD⟩
 have wB:=ah h1
 have HGO:=ah h2
 have HC23:=ah jD
 have jE:=ah (jU.out.stay jD)
 clear h1 h2 jD
 go_wp2_with (first|refine cw (b:=w.heap.size) (c:=c) rfl _ rfl rfl ?_ ?_;(focus exact rP.out _ jE.out))
 refine (HN.out _).mono ?_
 rintro e V4 ⟨⟨jZ,-⟩ | ⟨-,d,rfl,hwn,qE⟩,jT⟩
 ·exact absurd (nP.out.symm.trans jZ) (by decide)
 have HMW0:=ah (MW.made (W0:=W1) jU.out wB.out HGO.out HC23.out hwn qE jT)
 clear hwn qE jT
 go_upto_region 8 with (fail)
 go_loopw [39] (fun i wr=>∃k:Nat,k≤l.length∧i = .int .i64 k∧∃M O Q,Hid (MW W1 wr m d M M k O Q)) (fun i _=>l.length - (intOf i).toNat)
 case atStart=>exact ⟨0,by omega,rfl,_,_,_,HMW0⟩
 case round =>
  obtain ⟨k,hk,rfl,M,O,Q,hmw⟩:=hrel
  have HMW:=ah hmw.out
  clear hmw
  have rN:l.length≤40:=by have h:=HTM.out;unfold xf at h;simp at h;exact h.1
  by_cases hkl:k < l.length
  ·have oQ:=ah (fun W (h:Chg [] W1 W)=>Ea.out W h _ (List.getElem_mem hkl))
   obtain ⟨g,off,rfl⟩:=RE.addr (BF.out wr HMW.out.chg) (show 0 < l.length by omega)
   have vD:=ah (fun W (h:Chg [] W1 W)=>tw_ldX (BF.out W h) hkl)
   have HLR:=ah (fun W (h:Chg [] W1 W)=>tw_ldR (BF.out W h) hkl)
   have Fh:=ah (fun W (h:Chg [] W1 W)=>tw_ldH (BF.out W h) hkl)
   have rA:=ah (fun W (h:Chg [] W1 W)=>(by simpa using ro (BF.out W h) hkl (j:=0) (u:=.int .u8 l[k].x.k) (by omega) rfl:W.cell? ⟨g,off+k * 17,none⟩ = some (.int .u8 l[k].x.k)))
   obtain ⟨t,ht⟩:∃t,t = l[k]:=⟨_,rfl⟩
   rw [← ht] at oQ vD HLR Fh rA
   clear ht
   have dl:decide ((k:Int) < (l.length:Int)) = true:=ae (by omega)
   have dl':decide (k < l.length) = true:=ae hkl
   have i0:(0:Int)≤(k:Int):=by omega
   have i1:(k:Int) < (l.length:Int):=by omega
   have mS:IntKind.i64.wrap ((k:Int)+1) = (k:Int)+1:=by rw [IntKind.wrap_i64];omega
   have lZ:=ah hkl
   have DY:=ah (show k≤400000 by omega)
   clear hk hkl rN
   go_wp2_with fail
   refine HMW.out.copy.mono ?_
   rintro e V5 ⟨n,rfl,h3⟩
   have H3:=ah h3
   clear h3
   go_upto_region 11 with (fail)
   refine rgt [0,0,0,0,0,5,0,0,0,0,5,3,0] [none,none,none,none,none,none,none,none,none,none,none,none,none] (fun W=>Chg [] W1 W) ?_
   have H3d:=ah (H3.out.stay (Chg.refl [] V5).drew)
   have hS:Chg [] W1 V5.drew:=H3d.out.mw.chg
   generalize V5.drew = D0 at H3d hS ⊢
   have nK:=H3d.out.step HF.out (oQ.out D0 hS).x (oQ.out D0 hS).v (oQ.out D0 hS).r (oQ.out D0 hS).u
   cases hb:fv M t.x t.r with
   | true =>
    rw [hb] at nK
    have vG:=ah nK
    have HB:=ah hb
    clear hb nK
    go_upto_region 20 with (first|refine al 47 _ rfl rfl (fun w' J=>vD.out w' J) hS ?_|refine al 40 _ rfl rfl (fun w' J=>HLR.out w' J) hS ?_|refine ao fun K I=>?_;go_simp;refine vG.out.mono ?_;rintro e V6 ⟨rfl,O',h6⟩;have H6:=ah h6.mw;clear h6;refine I _ _ ?_;clear I K|refine av fun K I=>?_|refine ai fun K I=>?_;go_simp;refine I _ _ ?_;clear I K|refine ao fun K I=>?_;go_simp|refine aj ?_)
    clear hS
    refine rgt [0,0,0,0,0,5,0,0,0,0,5,3] [none,none,none,none,none,none,none,none,none,none,none,none] (fun W=>Chg [] W1 W) ?_
    have H6d:=ah (H6.out.stay (Chg.refl [] V6).drew)
    have hS:Chg [] W1 V6.drew:=H6d.out.chg
    generalize V6.drew = D1 at H6d hS ⊢
    go_upto_region 21 with (first|refine al 47 _ rfl rfl (fun w' J=>vD.out w' J) hS ?_|refine al 40 _ rfl rfl (fun w' J=>HLR.out w' J) hS ?_|refine ao fun K I=>?_;go_simp;refine (H6d.out.rstep DY.out (oQ.out D1 hS).x (oQ.out D1 hS).v (oQ.out D1 hS).r (oQ.out D1 hS).u rfl).mono ?_;rintro e V7 ⟨rfl,Q',h7⟩;have H7:=ah h7;clear h7;refine I _ _ ?_;clear I K|refine av fun K I=>?_|refine ai fun K I=>?_;go_simp;refine I _ _ ?_;clear I K|refine ao fun K I=>?_;go_simp|refine aj ?_)
    clear hS
    go_wp2_with fail
    go_roundw
    case rel=>exact ⟨k+1,by have:=lZ.out;omega,by go_num,_,_,_,H7⟩
    case measure=>have:=lZ.out;simp [intOf];omega
   | false =>
    rw [hb,xe hb] at nK
    have vG:=ah nK
    clear hb nK
    go_upto_region 12 with (first|refine al 47 _ rfl rfl (fun w' J=>vD.out w' J) hS ?_|refine al 40 _ rfl rfl (fun w' J=>HLR.out w' J) hS ?_|refine ao fun K I=>?_;go_simp;refine vG.out.mono ?_;rintro e V6 ⟨rfl,O',h6⟩;have H6:=ah h6;clear h6;refine I _ _ ?_;clear I K|refine av fun K I=>?_|refine ai fun K I=>?_;go_simp;refine I _ _ ?_;clear I K|refine ao fun K I=>?_;go_simp|refine aj ?_)
    clear hS
    go_wp2_with fail
    refine H6.out.same.mono ?_
    rintro e V7 ⟨rfl,jI⟩
    have H7:=ah (H6.out.stay jI)
    clear jI
    go_wp2_with fail
    refine H7.out.same2.mono ?_
    rintro e V8 ⟨rfl,mP⟩
    have H8:=ah (H7.out.stay mP).mw
    clear mP
    go_upto_region 14 with (fail)
    go_cut [11] from 67 to 78 (fun z11 W=>∃b11 A9 k9 c9,z11 = .pointer (some ⟨b11,0,none⟩)∧Hid (XB W b11 (gf M t.x t.h) (.slice A9 k9 c9))∧Hid (RB W (.slice A9 k9 c9) (gf M t.x t.h).l)∧Hid (Chg [] V8 W)∧Hid (∀i∈own (.slice A9 k9 c9),V8.heap.size≤i)∧Hid (V8.heap.size≤b11∧b11 < W.heap.size))
    case first =>
     refine kw [0,0,0,0,0,5,0,0,0,0,5,6,6,3] [none,none,none,none,none,none,none,none,none,none,none,none,none,none] [[0,1,2,3,4,5,6,7,8,9,10,11,12,13],[0,1,2,3,4,5,6,7,8,9,10,12,11,13]] (fun W=>Chg [] V8 W) (by kernel_rfl) (by kernel_rfl) (by kernel_rfl) (by kernel_rfl) (fun L9 nQ=>?_)
     have hS:Chg [] V8 V8.drew:=(Chg.refl [] V8).drew
     generalize V8.drew = D2 at hS ⊢
     simp only [List.mem_cons,List.mem_nil_iff,or_false] at nQ
     rcases nQ with rfl | rfl
     ·simp only [dt,List.filterMap_cons,List.filterMap_nil,List.getElem?_cons_succ,List.getElem?_cons_zero]
      go_wp2_with (first|refine al 47 _ rfl rfl (fun w' J=>vD.out w' (H8.out.chg.stay J)) hS ?_|refine al 37 _ rfl rfl (fun w' J=>Fh.out w' (H8.out.chg.stay J)) hS ?_|refine av fun K I=>?_|refine ai fun K I=>?_;go_simp;refine I _ _ ?_;clear I K|refine ao fun K I=>?_;go_simp|refine aj ?_)
      (refine aw hS fun K I=>?_)
      go_simp
      refine ((H8.out.stay hS).answer DY.out (oQ.out _ (H8.out.chg.stay hS)).x (oQ.out _ (H8.out.chg.stay hS)).v t.h).mono ?_
      rintro e W5 ⟨⟨A9,k9,c9,rfl,pO,oS⟩,U⟩
      have Dl:∀i∈own (.slice A9 k9 c9),V8.heap.size≤i:=fun i hi=>ag hS.size (oS i hi)
      replace hS:Chg [] V8 W5:=hS.stay U
      refine I _ _ hS ?_
      clear I K
      go_wp2_with (first|refine al 47 _ rfl rfl (fun w' J=>vD.out w' (H8.out.chg.stay J)) hS ?_|refine al 37 _ rfl rfl (fun w' J=>Fh.out w' (H8.out.chg.stay J)) hS ?_|refine av fun K I=>?_|refine ai fun K I=>?_;go_simp;refine I _ _ ?_;clear I K|refine ao fun K I=>?_;go_simp|refine aj ?_)
      (refine aw hS fun K I=>?_)
      refine mf rfl ?_
      refine I _ _ (hS.alloc _) ?_
      clear I K
      have pV:XB (W5.alloc (.cells (rsc zRs zV) 40)) W5.heap.size zRs zV:=Blk.new _ _ _
      have oR:Chg [] W5 (W5.alloc (.cells (rsc zRs zV) 40)):=(Chg.refl [] _).alloc _
      have qS:V8.heap.size≤W5.heap.size:=hS.size
      replace hS:Chg [] V8 (W5.alloc (.cells (rsc zRs zV) 40)):=hS.alloc _
      obtain ⟨ba,nL⟩:∃y,y = W5.heap.size:=⟨_,rfl⟩
      have qE:W5.heap.size≤ba:=Nat.le_of_eq nL.symm
      rw [← nL] at pV qS ⊢
      generalize W5.alloc (.cells (rsc zRs zV) 40) = Wa at pV oR hS ⊢
      clear nL
      have zT:=pV
      go_wp2_with (first|refine ao fun K I=>?_;refine iy (b:=ba) (x:=zRs) (v:=zV) (y:=gf M t.x t.h) (u:=.slice A9 k9 c9) _ _ rfl rfl rfl rfl zT ?_;intro W9 h9 kE;have H9:=ah h9;have mB:=ah kE;clear h9 kE;refine I _ _ ?_;clear I K|refine av fun K I=>?_|refine ai fun K I=>?_;go_simp;refine I _ _ ?_;clear I K|refine ao fun K I=>?_;go_simp|refine aj ?_)
      go_meet
      case rel=>exact ⟨ba,A9,k9,c9,rfl,H9,ah (RE.stay pO (oR.trans mB.out (fun y hy=>.inr (by obtain rfl:=aa hy;exact qE)))),ah (hS.trans mB.out (fun y hy=>.inr (by obtain rfl:=aa hy;exact qS))),ah Dl,ah ⟨qS,Blk.lt H9.out⟩⟩
     ·simp only [dt,List.filterMap_cons,List.filterMap_nil,List.getElem?_cons_succ,List.getElem?_cons_zero]
      go_wp2_with (first|refine al 47 _ rfl rfl (fun w' J=>vD.out w' (H8.out.chg.stay J)) hS ?_|refine al 37 _ rfl rfl (fun w' J=>Fh.out w' (H8.out.chg.stay J)) hS ?_|refine av fun K I=>?_|refine ai fun K I=>?_;go_simp;refine I _ _ ?_;clear I K|refine ao fun K I=>?_;go_simp|refine aj ?_)
      (refine aw hS fun K I=>?_)
      refine mf rfl ?_
      refine I _ _ (hS.alloc _) ?_
      clear I K
      have pV:XB (D2.alloc (.cells (rsc zRs zV) 40)) D2.heap.size zRs zV:=Blk.new _ _ _
      have oR:Chg [] D2 (D2.alloc (.cells (rsc zRs zV) 40)):=(Chg.refl [] _).alloc _
      have qS:V8.heap.size≤D2.heap.size:=hS.size
      replace hS:Chg [] V8 (D2.alloc (.cells (rsc zRs zV) 40)):=hS.alloc _
      obtain ⟨ba,nL⟩:∃y,y = D2.heap.size:=⟨_,rfl⟩
      have qE:D2.heap.size≤ba:=Nat.le_of_eq nL.symm
      rw [← nL] at pV qS ⊢
      generalize D2.alloc (.cells (rsc zRs zV) 40) = Wa at pV oR hS ⊢
      clear nL
      go_wp2_with (first|refine al 47 _ rfl rfl (fun w' J=>vD.out w' (H8.out.chg.stay J)) hS ?_|refine al 37 _ rfl rfl (fun w' J=>Fh.out w' (H8.out.chg.stay J)) hS ?_|refine av fun K I=>?_|refine ai fun K I=>?_;go_simp;refine I _ _ ?_;clear I K|refine ao fun K I=>?_;go_simp|refine aj ?_)
      (refine aw hS fun K I=>?_)
      go_simp
      refine ((H8.out.stay hS).answer DY.out (oQ.out _ (H8.out.chg.stay hS)).x (oQ.out _ (H8.out.chg.stay hS)).v t.h).mono ?_
      rintro e W5 ⟨⟨A9,k9,c9,rfl,pO,oS⟩,U⟩
      have FM:ba < Wa.heap.size:=Blk.lt pV
      have zT:=XB.stay pV U
      have Dl:∀i∈own (.slice A9 k9 c9),V8.heap.size≤i:=fun i hi=>ag hS.size (oS i hi)
      replace hS:Chg [] V8 W5:=hS.stay U
      refine I _ _ hS ?_
      clear I K
      go_wp2_with (first|refine ao fun K I=>?_;refine iy (b:=ba) (x:=zRs) (v:=zV) (y:=gf M t.x t.h) (u:=.slice A9 k9 c9) _ _ rfl rfl rfl rfl zT ?_;intro W9 h9 kE;have H9:=ah h9;have mB:=ah kE;clear h9 kE;refine I _ _ ?_;clear I K|refine av fun K I=>?_|refine ai fun K I=>?_;go_simp;refine I _ _ ?_;clear I K|refine ao fun K I=>?_;go_simp|refine aj ?_)
      go_meet
      case rel=>exact ⟨ba,A9,k9,c9,rfl,H9,ah (RE.chg pO mB.out (fun y hy Bt=>by obtain rfl:=aa Bt;have:=oS _ (by first | exact hy | exact gv.2 hy);omega)),ah (hS.trans mB.out (fun y hy=>.inr (by obtain rfl:=aa hy;exact qS))),ah Dl,ah ⟨qS,Blk.lt H9.out⟩⟩
    obtain ⟨b11,A9,k9,c9,rfl,Ax,hr9,kE,ho9,mU⟩:=hcut
    have AV:=ah Ax.out
    have Fq:=ah hr9.out
    have mB:=ah kE.out
    have HO9:=ah (show ∀y∈own (.slice A9 k9 c9),¬ O' y from fun y hy ho=>by have h1:=ho9.out y hy;have h2:=H8.out.mm.lt y ho;omega)
    have Aa:=ah (show ¬ O' b11∧¬ Q b11∧W1.heap.size≤b11∧(∀y∈own (.slice A9 k9 c9),W1.heap.size≤y) from ⟨fun ho=>by have h1:=mU.out.1;have h2:=H8.out.mm.lt b11 ho;omega,fun ho=>by have h1:=mU.out.1;have h2:=H8.out.wn.lt b11 ho;omega,ag H8.out.chg.size mU.out.1,fun y hy=>ag H8.out.chg.size (ho9.out y hy)⟩)
    have nF:=ah (H8.out.stay kE.out)
    clear Ax hr9 kE ho9 mU
    have q0:=rA.out wc nF.out.chg
    have gl:=World.block_lt_of_cell? _ _ q0
    obtain ⟨p0,p1,-,pl,pf⟩:=XB.cells AV.out
    have pf1:=pf 1
    obtain ⟨zk,Bu⟩:∃z:Int,z = (t.x.k:Int):=⟨_,rfl⟩
    rw [← Bu] at q0
    have HZK:=ah Bu
    obtain ⟨ze,Cb⟩:∃z:Int,z = (gf M t.x t.h).e:=⟨_,rfl⟩
    rw [← Cb] at p0
    have HZE:=ah Cb
    clear Bu Cb pf
    by_cases kK:zk = 10
    ·subst kK
     by_cases he:ze = 0
     ·subst he
      have EO:=ah (fun f=>ansR_10 (M:=M) (x:=t.x) (by have:=HZK.out;omega) t.h f HZE.out.symm)
      go_wp2_with fail
      refine nF.out.fresh.mono ?_
      rintro e wc' ⟨⟨f,rfl,hf0,Gf,hfe⟩,rfl⟩
      have HFF:=ah (And.intro hf0 (And.intro Gf hfe))
      clear hf0 Gf hfe
      go_upto_region 17 with (fail)
      have Bs:=XB.set_v AV.out f
      rw [(EO.out f).2] at Bs
      have lC:Chg [b11] wc (wc.setCell ⟨b11,1,none⟩ (.int .u64 f)):=(Chg.refl [b11] wc).setCell (p:=⟨b11,1,none⟩) (.inl (by simp)) _
      clear q0 gl p0 p1 pl pf1
      generalize wc.setCell ⟨b11,1,none⟩ (.int .u64 f) = WF at Bs lC ⊢
      have Fx:=ah Bs
      have HRF:=ah (show RB WF (.slice A9 k9 c9) (gf M t.x f).l from by
       rw [ansR_l M t.x f t.h]
       have he2:(gf M t.x t.h).l = []:=by
        have h1:=(EO.out 0).1
        unfold gf
        rw [if_neg (by rw [h1];decide),if_pos (by have:=HZK.out;omega)]
       have h2:=Fq.out
       rw [he2] at h2 ⊢
       obtain ⟨h1,A',c',e',Ak,oG⟩:=h2
       exact ⟨h1,A',c',e',Ak,fun h=>absurd h (by simp)⟩)
      have Eb:=ah (nF.out.put lC (fun y hy=>by obtain rfl:=aa hy;exact ⟨Aa.out.1,Aa.out.2.1,Aa.out.2.2.1⟩))
      have sD:=ah (show f < 18446744073709551616∧(ci M.c t.x = false→t.x.k = 10→f≠0∧M.ev f = false) from ⟨HFF.out.2.1,fun _ _=>⟨HFF.out.1,HFF.out.2.2⟩⟩)
      clear Bs lC
      have tH:=wa (M:=M) (x:=t.x) (f:=f) sD.out.2
      have xR:=ah tH
      clear tH
      refine rgt [0,0,0,0,0,5,5,3,0] [none,none,none,none,none,none,none,none,none] (fun W=>Chg [] WF W) ?_
      have hS:Chg [] WF WF.drew:=(Chg.refl [] WF).drew
      generalize WF.drew = D3 at hS ⊢
      have lX:=(Eb.out.stay hS).step HF.out (oQ.out D3 (Eb.out.chg.stay hS)).x (oQ.out D3 (Eb.out.chg.stay hS)).v (rf Eb.out.ok t.x sD.out.1) (HRF.out.stay hS)
      rw [xR.out] at lX
      have xZ:=ah lX
      clear lX
      go_upto_region 19 with (first|refine al 47 _ rfl rfl (fun w' J=>vD.out w' (Eb.out.chg.stay J)) hS ?_|refine al 40 _ rfl rfl (fun w' J=>XB.load (XB.stay Fx.out J)) hS ?_|refine ao fun K I=>?_;go_simp;refine xZ.out.mono ?_;rintro e Va ⟨rfl,kO,O2,h9⟩;have Fw:=ah (show XB Va b11 (gf M t.x f) (.slice A9 k9 c9) from Blk.cp (XB.stay Fx.out hS) kO Aa.out.1);have Fr:=ah (show RB Va (.slice A9 k9 c9) (gf M t.x f).l from RB.cpo (HRF.out.stay hS) kO HO9.out);have vE:=ah h9;clear h9 kO;refine I _ _ ?_;clear I K|refine av fun K I=>?_|refine ai fun K I=>?_;go_simp;refine I _ _ ?_;clear I K|refine ao fun K I=>?_;go_simp|refine aj ?_)
      clear hS
      refine rgt [0,0,0,0,0,5,5,3] [none,none,none,none,none,none,none,none] (fun W=>Chg [] Va W) ?_
      have hS:Chg [] Va Va.drew:=(Chg.refl [] Va).drew
      generalize Va.drew = D4 at hS ⊢
      go_upto_region 21 with (first|refine al 47 _ rfl rfl (fun w' J=>vD.out w' (vE.out.chg.stay J)) hS ?_|refine al 40 _ rfl rfl (fun w' J=>XB.load (XB.stay Fw.out J)) hS ?_|refine ao fun K I=>?_;go_simp;refine ((vE.out.stay hS).rstep DY.out (oQ.out D4 (vE.out.chg.stay hS)).x (oQ.out D4 (vE.out.chg.stay hS)).v (rf Eb.out.ok t.x sD.out.1) (Fr.out.stay hS) rfl).mono ?_;rintro e Vb ⟨rfl,Q',h9⟩;have xS:=ah h9;clear h9;refine I _ _ ?_;clear I K|refine av fun K I=>?_|refine ai fun K I=>?_;go_simp;refine I _ _ ?_;clear I K|refine ao fun K I=>?_;go_simp|refine aj ?_)
      clear hS
      go_wp2_with fail
      go_roundw
      case rel=>exact ⟨k+1,by have:=lZ.out;omega,by go_num,_,_,_,xS⟩
      case measure=>have:=lZ.out;simp [intOf];omega
     ·have d0:(ze == 0) = false:=beq_false_of_ne he
      have sD:=ah (show t.h < 18446744073709551616∧(ci M.c t.x = false→t.x.k = 10→t.h≠0∧M.ev t.h = false) from ⟨(oQ.out _ nF.out.chg).h,fH t.h (fun h=>he (by have:=HZE.out;rw [this];exact h.2))⟩)
      clear he
      go_upto_region 17 with (fail)
      clear q0 gl p0 p1 pl pf1 d0
      have tH:=wa (M:=M) (x:=t.x) (f:=t.h) sD.out.2
      have xR:=ah tH
      clear tH
      refine rgt [0,0,0,0,0,5,5,3,0] [none,none,none,none,none,none,none,none,none] (fun W=>Chg [] wc W) ?_
      have hS:Chg [] wc wc.drew:=(Chg.refl [] wc).drew
      generalize wc.drew = D3 at hS ⊢
      have lX:=(nF.out.stay hS).step HF.out (oQ.out D3 (nF.out.chg.stay hS)).x (oQ.out D3 (nF.out.chg.stay hS)).v (rf nF.out.ok t.x sD.out.1) (Fq.out.stay hS)
      rw [xR.out] at lX
      have xZ:=ah lX
      clear lX
      go_upto_region 19 with (first|refine al 47 _ rfl rfl (fun w' J=>vD.out w' (nF.out.chg.stay J)) hS ?_|refine al 40 _ rfl rfl (fun w' J=>XB.load (XB.stay AV.out J)) hS ?_|refine ao fun K I=>?_;go_simp;refine xZ.out.mono ?_;rintro e Va ⟨rfl,kO,O2,h9⟩;have Fw:=ah (show XB Va b11 (gf M t.x t.h) (.slice A9 k9 c9) from Blk.cp (XB.stay AV.out hS) kO Aa.out.1);have Fr:=ah (show RB Va (.slice A9 k9 c9) (gf M t.x t.h).l from RB.cpo (Fq.out.stay hS) kO HO9.out);have vE:=ah h9;clear h9 kO;refine I _ _ ?_;clear I K|refine av fun K I=>?_|refine ai fun K I=>?_;go_simp;refine I _ _ ?_;clear I K|refine ao fun K I=>?_;go_simp|refine aj ?_)
      clear hS
      refine rgt [0,0,0,0,0,5,5,3] [none,none,none,none,none,none,none,none] (fun W=>Chg [] Va W) ?_
      have hS:Chg [] Va Va.drew:=(Chg.refl [] Va).drew
      generalize Va.drew = D4 at hS ⊢
      go_upto_region 21 with (first|refine al 47 _ rfl rfl (fun w' J=>vD.out w' (vE.out.chg.stay J)) hS ?_|refine al 40 _ rfl rfl (fun w' J=>XB.load (XB.stay Fw.out J)) hS ?_|refine ao fun K I=>?_;go_simp;refine ((vE.out.stay hS).rstep DY.out (oQ.out D4 (vE.out.chg.stay hS)).x (oQ.out D4 (vE.out.chg.stay hS)).v (rf nF.out.ok t.x sD.out.1) (Fr.out.stay hS) rfl).mono ?_;rintro e Vb ⟨rfl,Q',h9⟩;have xS:=ah h9;clear h9;refine I _ _ ?_;clear I K|refine av fun K I=>?_|refine ai fun K I=>?_;go_simp;refine I _ _ ?_;clear I K|refine ao fun K I=>?_;go_simp|refine aj ?_)
      clear hS
      go_wp2_with fail
      go_roundw
      case rel=>exact ⟨k+1,by have:=lZ.out;omega,by go_num,_,_,_,xS⟩
      case measure=>have:=lZ.out;simp [intOf];omega
    ·have d0:(zk == 10) = false:=beq_false_of_ne kK
     have sD:=ah (show t.h < 18446744073709551616∧(ci M.c t.x = false→t.x.k = 10→t.h≠0∧M.ev t.h = false) from ⟨(oQ.out _ nF.out.chg).h,fH t.h (fun h=>kK (by have:=HZK.out;omega))⟩)
     clear kK
     go_upto_region 17 with (fail)
     clear q0 gl p0 p1 pl pf1 d0
     have tH:=wa (M:=M) (x:=t.x) (f:=t.h) sD.out.2
     have xR:=ah tH
     clear tH
     refine rgt [0,0,0,0,0,5,5,3,0] [none,none,none,none,none,none,none,none,none] (fun W=>Chg [] wc W) ?_
     have hS:Chg [] wc wc.drew:=(Chg.refl [] wc).drew
     generalize wc.drew = D3 at hS ⊢
     have lX:=(nF.out.stay hS).step HF.out (oQ.out D3 (nF.out.chg.stay hS)).x (oQ.out D3 (nF.out.chg.stay hS)).v (rf nF.out.ok t.x sD.out.1) (Fq.out.stay hS)
     rw [xR.out] at lX
     have xZ:=ah lX
     clear lX
     go_upto_region 19 with (first|refine al 47 _ rfl rfl (fun w' J=>vD.out w' (nF.out.chg.stay J)) hS ?_|refine al 40 _ rfl rfl (fun w' J=>XB.load (XB.stay AV.out J)) hS ?_|refine ao fun K I=>?_;go_simp;refine xZ.out.mono ?_;rintro e Va ⟨rfl,kO,O2,h9⟩;have Fw:=ah (show XB Va b11 (gf M t.x t.h) (.slice A9 k9 c9) from Blk.cp (XB.stay AV.out hS) kO Aa.out.1);have Fr:=ah (show RB Va (.slice A9 k9 c9) (gf M t.x t.h).l from RB.cpo (Fq.out.stay hS) kO HO9.out);have vE:=ah h9;clear h9 kO;refine I _ _ ?_;clear I K|refine av fun K I=>?_|refine ai fun K I=>?_;go_simp;refine I _ _ ?_;clear I K|refine ao fun K I=>?_;go_simp|refine aj ?_)
     clear hS
     refine rgt [0,0,0,0,0,5,5,3] [none,none,none,none,none,none,none,none] (fun W=>Chg [] Va W) ?_
     have hS:Chg [] Va Va.drew:=(Chg.refl [] Va).drew
     generalize Va.drew = D4 at hS ⊢
     go_upto_region 21 with (first|refine al 47 _ rfl rfl (fun w' J=>vD.out w' (vE.out.chg.stay J)) hS ?_|refine al 40 _ rfl rfl (fun w' J=>XB.load (XB.stay Fw.out J)) hS ?_|refine ao fun K I=>?_;go_simp;refine ((vE.out.stay hS).rstep DY.out (oQ.out D4 (vE.out.chg.stay hS)).x (oQ.out D4 (vE.out.chg.stay hS)).v (rf nF.out.ok t.x sD.out.1) (Fr.out.stay hS) rfl).mono ?_;rintro e Vb ⟨rfl,Q',h9⟩;have xS:=ah h9;clear h9;refine I _ _ ?_;clear I K|refine av fun K I=>?_|refine ai fun K I=>?_;go_simp;refine I _ _ ?_;clear I K|refine ao fun K I=>?_;go_simp|refine aj ?_)
     clear hS
     go_wp2_with fail
     go_roundw
     case rel=>exact ⟨k+1,by have:=lZ.out;omega,by go_num,_,_,_,xS⟩
     case measure=>have:=lZ.out;simp [intOf];omega
  ·obtain rfl:k = l.length:=by omega
   have dl:decide (((l.length:Nat):Int) < (l.length:Int)) = false:=ac (by omega)
   clear hk hkl rN
   go_wp2_with fail
   refine HMW.out.self.mono ?_
   rintro e V4' ⟨rfl,U⟩
   have HC:=ah (HMW.out.chg.stay U)
   clear U
   go_wp2_with fail
   refine (HK.out _ HC.out).mono ?_
   rintro e W9 ⟨rfl,kE⟩
   go_wp2_with fail
   go_ret
   exact ⟨rfl,pX.out.stay (HC.out.stay kE)⟩
end Go.Proofs.YtfoleblcaloeoaaGreatDoor
