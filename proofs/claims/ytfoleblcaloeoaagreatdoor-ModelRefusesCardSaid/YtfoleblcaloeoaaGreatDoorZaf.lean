/- Texts merged for the claim. -/
import Derived.Test.YtfoleblcaloeoaaGreatDoorZae
set_option maxHeartbeats 40000000
set_option maxRecDepth 20000
namespace Go.Proofs.YtfoleblcaloeoaaGreatDoor
open Go Go.RowKit
def jv (x y:Cl) (f:Nat):Cl :=
 if f = 112 then { y with p:=x.p } else if f = 103 then { y with g:=x.g } else if f = 99 then { y with c:=x.c } else if f = 110 then { y with n:=x.n }
 else if f = 97 then { y with a:=x.a } else if f = 115 then { y with s:=x.s } else if f = 114 then { y with r:=x.r } else if f = 111 then { y with ok:=x.ok,om:=x.om }
 else if f = 104 then { y with h:=x.h } else if f = 98 then { y with l:=x.l } else y
def pu (v u:Value) (f:Nat):Value:=if f = 98 then v else u
def ge (x:Cl) (F:List Nat):Cl:=F.foldl (jv x) { zCl with k:=x.k }
def ii (v:Value) (F:List Nat):Value:=F.foldl (pu v) zV
theorem eD (x:Cl) (F:List Nat) (f:Nat):ge x (F ++ [f]) = jv x (ge x F) f:=by unfold ge;rw [List.foldl_append];rfl
theorem eE (v:Value) (F:List Nat) (f:Nat):ii v (F ++ [f]) = pu v (ii v F) f:=by unfold ii;rw [List.foldl_append];rfl
theorem iK {v:Value} (hv:v.oneCell' = true):∀F:List Nat,(ii v F).oneCell' = true:=by
 have:∀(F:List Nat) (u:Value),u.oneCell' = true→(F.foldl (pu v) u).oneCell' = true:=by
  intro F
  induction F with
  | nil=>intro u hu;exact hu
  | cons f F ih =>
   intro u hu
   refine ih _ ?_
   unfold pu
   split
   ·exact hv
   ·exact hu
 exact fun F=>this F zV rfl
def jj (x:Cl):Cl:=ge x (fld x.k)
def bareU (x:Cl) (v:Value):Value:=ii v (fld x.k)
theorem KB.put {w:World} {b:Nat} {x y:Cl} {v u:Value} (h:KB w b x v) (i:Nat) (z:Value) (he:(clc x v).setIfInBounds i z = clc y u):KB (w.setCell ⟨b,i,none⟩ z) b y u:=by
 have:=Blk.set_ h i z
 rw [he] at this
 exact this
theorem Itr.pos {w:World} {b j:Nat} {l:List Nat} (h:Itr w b l j):w.iterPos b = j:=by unfold World.iterPos;rw [show w.heap[b]? = _ from h]
theorem iX {α:Type} {F:List α} {j:Nat} (hj:j < F.length):F.take (j+1) = F.take j ++ [F[j]]:=List.take_succ_eq_append_getElem hj
theorem gS {w:World} (hf:FW w) {x:Cl} {v:Value} (hk:x.k < 256) (hv:∃A n c,v = .slice A n c):Calls Tryz.prog 87 #[.agg (clc x v)] w fun e w'=>e = .returned (.agg (clc (jj x) (bareU x v)))∧Chg [] w w':=by
 obtain ⟨A0,n0,c0,rfl⟩:=hv
 unfold jj bareU
 have sF:=fun W (h:Chg [] w W)=>dZ (hf.stay h) hk
 have HFM:=ah (fun f (h:f∈fld x.k)=>fQ h)
 generalize fld x.k = F at sF HFM ⊢
 have sF:=ah sF
 obtain ⟨W2,jB⟩:∃W2,W2 = (w.alloc (.cells (clc x (.slice A0 n0 c0)) 47)).alloc (.cells (clc zCl zV) 47):=⟨_,rfl⟩
 have oH:W2.heap.size = w.heap.size+1+1:=by rw [jB];simp
 have kF:KB W2 w.heap.size x (.slice A0 n0 c0):=by rw [jB];exact (Blk.new w 47 _).alloc _
 have kU:KB W2 (w.heap.size+1) zCl zV:=by
  have:=Blk.new (w.alloc (.cells (clc x (.slice A0 n0 c0)) 47)) 47 (clc zCl zV)
  rw [af] at this
  rw [jB]
  exact this
 have nH:Chg [] w W2:=by rw [jB];exact ((Chg.refl [] w).alloc _).alloc _
 obtain ⟨q0,-⟩:=kF.cells
 have jS:KB (W2.alloc (.cells (clc zCl zV) 47)) (w.heap.size+1+1) zCl zV:=by rw [← oH];exact Blk.new W2 47 _
 have wT:=ah (show KB (W2.alloc (.cells (clc zCl zV) 47)) w.heap.size x (.slice A0 n0 c0) from Blk.alloc kF _)
 have nC:=ah (show KB (W2.alloc (.cells (clc zCl zV) 47)) (w.heap.size+1) zCl zV from Blk.alloc kU _)
 have jY:=ah jS
 have jE:=ah (nH.alloc (.cells (clc zCl zV) 47))
 have pB:w.heap.size < W2.heap.size:=by omega
 have jP:=ah jB
 have rB:=ah oH
 rw [jB] at q0 pB
 clear kF kU jS nH jB oH
 go_enter Tryz.func87,Tryz.ntmps87
 go_wp2_with (first|refine ax rfl _ rfl rfl ?_|refine qw rfl rfl ?_;try simp only [af];try go_simp|rw [← jP.out];refine jz (b:=w.heap.size+1+1) (y:={ zCl with k:=x.k }) (u:=zV) rfl _ _ rfl rfl rfl rfl jY.out ?_;intro W4 h4 jT;obtain ⟨q4,-,-,-,-,-,-,-,-,-,-,-,l4,-⟩:=KB.cells (x:=x) (v:=(.slice A0 n0 c0)) (Blk.chg wT.out jT (by simp only [List.mem_singleton];omega)))
 have wT:=ah (show KB W4 w.heap.size x (.slice A0 n0 c0) from Blk.chg wT.out jT (by simp only [List.mem_singleton];omega))
 have nC:=ah (show KB W4 (w.heap.size+1) zCl zV from Blk.chg nC.out jT (by simp only [List.mem_singleton];omega))
 have jW:=ah h4
 have jR:=ah (jE.out.trans jT (fun y hy=>.inr (by obtain rfl:=aa hy;omega)))
 clear h4 jT jY jE q0 pB
 refine (sF.out W4 jR.out).mono ?_
 rintro e W5 ⟨rfl,rfl⟩
 have nJ:=Itr.new W4 (F)
 have FU:=chg_iter W4 (dz (F))
 have oX:=ah (show w.heap.size < W4.heap.size∧w.heap.size+1 < W4.heap.size∧w.heap.size+1+1 < W4.heap.size from ⟨wT.out.lt,nC.out.lt,jW.out.lt⟩)
 have HI:=ah nJ
 have wT:=ah (show KB (W4.iter (dz (F)) 0) w.heap.size x (.slice A0 n0 c0) from wT.out.stay FU)
 have nC:=ah (show KB (W4.iter (dz (F)) 0) (w.heap.size+1) zCl zV from nC.out.stay FU)
 have jW:=ah (show KB (W4.iter (dz (F)) 0) (w.heap.size+1+1) (ge x ((F).take 0)) (ii (.slice A0 n0 c0) ((F).take 0)) from jW.out.stay FU)
 have jR:=ah (jR.out.stay FU)
 clear nJ FU q4 l4 jP rB hf sF
 go_wp2_with fail
 obtain ⟨W6,wZ⟩:∃W6,W6 = W4.iter (dz F) 0:=⟨_,rfl⟩
 rw [← wZ] at HI wT nC jW jR ⊢
 obtain ⟨b1,h1⟩:∃b,b = w.heap.size:=⟨_,rfl⟩
 obtain ⟨b2,h2⟩:∃b,b = w.heap.size+1:=⟨_,rfl⟩
 obtain ⟨b3,h3⟩:∃b,b = w.heap.size+1+1:=⟨_,rfl⟩
 obtain ⟨bi,h5⟩:∃b,b = W4.heap.size:=⟨_,rfl⟩
 rw [← h3] at jW oX ⊢
 rw [← h2] at nC oX ⊢
 rw [← h5] at HI oX ⊢
 have kP:=ah (show b1≠b2∧b1≠b3∧b2≠b3∧b1≠bi∧b2≠bi∧b3≠bi∧w.heap.size≤b2∧w.heap.size≤b3∧w.heap.size≤bi from by have:=oX.out;omega)
 rw [← h1] at wT oX ⊢
 have H1:=ah h1
 clear wZ h1 h2 h3 h5 oX
 go_loopw [] (fun wr=>∃j:Nat,j≤F.length∧Hid (KB wr b1 x (.slice A0 n0 c0))∧Hid (KB wr b2 zCl zV)∧Hid (KB wr b3 (ge x (F.take j)) (ii (.slice A0 n0 c0) (F.take j)))∧Hid (Itr wr bi F j)∧Hid (Chg [] w wr)) (fun wr=>F.length - wr.iterPos bi)
 case atStart=>exact ⟨0,by omega,wT,nC,jW,HI,jR⟩
 case round =>
  obtain ⟨j,hj,k1,k2,k3,ki,kc⟩:=hrel
  by_cases jF:j < F.length
  ·have zC:=HFM.out _ (List.getElem_mem jF)
   obtain ⟨W1,hnx,vP,jH⟩:=ki.out.next jF (yx zC)
   have K1:=ah (show KB W1 b1 x (.slice A0 n0 c0) from Blk.chg k1.out jH (by simpa using kP.out.2.2.2.1))
   have K2:=ah (show KB W1 b2 zCl zV from Blk.chg k2.out jH (by simpa using kP.out.2.2.2.2.1))
   have K3:=ah (show KB W1 b3 (ge x (F.take j)) (ii (.slice A0 n0 c0) (F.take j)) from Blk.chg k3.out jH (by simpa using kP.out.2.2.2.2.2.1))
   have KC:=ah (kc.out.trans jH (fun y hy=>.inr (by obtain rfl:=aa hy;exact kP.out.2.2.2.2.2.2.2.2)))
   have KI:=ah vP
   have Bj:=iX jF
   have pS:=ah (show ge x (F.take (j+1)) = jv x (ge x (F.take j)) F[j] from by rw [Bj,eD])
   have oE:=ah (show ii (.slice A0 n0 c0) (F.take (j+1)) = pu (.slice A0 n0 c0) (ii (.slice A0 n0 c0) (F.take j)) F[j] from by rw [Bj,eE])
   have mV:wr.iterPos bi = j:=by unfold World.iterPos;rw [show wr.heap[bi]? = _ from ki.out]
   obtain ⟨c1,c2,c3,c4,c5,c6,c7,c8,c9,c10,c11,c12,cl,cf⟩:=K1.out.cells
   obtain ⟨d1,d2,d3,d4,d5,d6,d7,d8,d9,d10,d11,d12,dl,df⟩:=K3.out.cells
   have pG:=ah (fun W (h:b1 < W.heap.size)=>wk (w:=W) h zC)
   have oY:=ah (fun W (h:b3 < W.heap.size)=>wk (w:=W) h zC)
   generalize F[j] = f at zC hnx pS oE pG oY
   generalize ge x (F.take j) = y at K3 pS d1 d2 d3 d4 d5 d6 d7 d8 d9 d10 d11 d12
   generalize ii (.slice A0 n0 c0) (F.take j) = u at K3 oE d12
   clear vP jH Bj k1 k2 k3 ki kc
   rcases zC with rfl | rfl | rfl | rfl | rfl | rfl | rfl | rfl | rfl | rfl | rfl
   ·simp only [td,ug,reduceIte,Nat.reduceEqDiff,Option.isSome] at pG oY
    simp only [jv,pu,reduceIte,Nat.reduceEqDiff] at pS oE
    have HK:=ah (show KB W1 b3 (ge x (F.take (j+1))) (ii (.slice A0 n0 c0) (F.take (j+1))) from by rw [pS.out,oE.out];exact K3.out)
    go_wp2_with fail
    refine (pG.out _ cl).mono ?_
    rintro e W9 ⟨rfl,rfl⟩
    go_wp2_with fail
    go_roundw
    case rel=>exact ⟨j+1,by omega,K1,K2,HK,KI,KC⟩
    case measure=>rw [mV,KI.out.pos];omega
   ·simp only [td,ug,reduceIte,Nat.reduceEqDiff,Option.isSome] at pG oY
    simp only [jv,pu,reduceIte,Nat.reduceEqDiff] at pS oE
    have HK:=ah (show KB (W1.setCell ⟨b3,1,none⟩ (.int .i64 x.p)) b3 (ge x (F.take (j+1))) (ii (.slice A0 n0 c0) (F.take (j+1))) from by rw [pS.out,oE.out];exact K3.out.put 1 _ rfl)
    have HW:=ah (And.intro (show KB (W1.setCell ⟨b3,1,none⟩ (.int .i64 x.p)) b1 x (.slice A0 n0 c0) from K1.out.far kP.out.2.1 _) (And.intro (show KB (W1.setCell ⟨b3,1,none⟩ (.int .i64 x.p)) b2 zCl zV from K2.out.far kP.out.2.2.1 _) (And.intro (show Itr (W1.setCell ⟨b3,1,none⟩ (.int .i64 x.p)) bi F (j+1) from (Below.heap_setCell W1 _ _ bi (Ne.symm kP.out.2.2.2.2.2.1)).trans KI.out) (KC.out.setCell (p:=⟨b3,1,none⟩) (.inr kP.out.2.2.2.2.2.2.2.1) (.int .i64 x.p)))))
    go_wp2_with fail
    refine (pG.out _ cl).mono ?_
    rintro e W9 ⟨rfl,rfl⟩
    go_wp2_with fail
    refine (oY.out _ dl).mono ?_
    rintro e W9 ⟨rfl,rfl⟩
    go_wp2_with fail
    go_roundw
    case rel=>exact ⟨j+1,by omega,ah HW.out.1,ah HW.out.2.1,HK,ah HW.out.2.2.1,ah HW.out.2.2.2⟩
    case measure=>rw [mV,HW.out.2.2.1.pos];omega
   ·simp only [td,ug,reduceIte,Nat.reduceEqDiff,Option.isSome] at pG oY
    simp only [jv,pu,reduceIte,Nat.reduceEqDiff] at pS oE
    have HK:=ah (show KB (W1.setCell ⟨b3,3,none⟩ (.int .i64 x.g)) b3 (ge x (F.take (j+1))) (ii (.slice A0 n0 c0) (F.take (j+1))) from by rw [pS.out,oE.out];exact K3.out.put 3 _ rfl)
    have HW:=ah (And.intro (show KB (W1.setCell ⟨b3,3,none⟩ (.int .i64 x.g)) b1 x (.slice A0 n0 c0) from K1.out.far kP.out.2.1 _) (And.intro (show KB (W1.setCell ⟨b3,3,none⟩ (.int .i64 x.g)) b2 zCl zV from K2.out.far kP.out.2.2.1 _) (And.intro (show Itr (W1.setCell ⟨b3,3,none⟩ (.int .i64 x.g)) bi F (j+1) from (Below.heap_setCell W1 _ _ bi (Ne.symm kP.out.2.2.2.2.2.1)).trans KI.out) (KC.out.setCell (p:=⟨b3,3,none⟩) (.inr kP.out.2.2.2.2.2.2.2.1) (.int .i64 x.g)))))
    go_wp2_with fail
    refine (pG.out _ cl).mono ?_
    rintro e W9 ⟨rfl,rfl⟩
    go_wp2_with fail
    refine (oY.out _ dl).mono ?_
    rintro e W9 ⟨rfl,rfl⟩
    go_wp2_with fail
    go_roundw
    case rel=>exact ⟨j+1,by omega,ah HW.out.1,ah HW.out.2.1,HK,ah HW.out.2.2.1,ah HW.out.2.2.2⟩
    case measure=>rw [mV,HW.out.2.2.1.pos];omega
   ·simp only [td,ug,reduceIte,Nat.reduceEqDiff,Option.isSome] at pG oY
    simp only [jv,pu,reduceIte,Nat.reduceEqDiff] at pS oE
    have HK:=ah (show KB (W1.setCell ⟨b3,4,none⟩ (.int .i64 x.c)) b3 (ge x (F.take (j+1))) (ii (.slice A0 n0 c0) (F.take (j+1))) from by rw [pS.out,oE.out];exact K3.out.put 4 _ rfl)
    have HW:=ah (And.intro (show KB (W1.setCell ⟨b3,4,none⟩ (.int .i64 x.c)) b1 x (.slice A0 n0 c0) from K1.out.far kP.out.2.1 _) (And.intro (show KB (W1.setCell ⟨b3,4,none⟩ (.int .i64 x.c)) b2 zCl zV from K2.out.far kP.out.2.2.1 _) (And.intro (show Itr (W1.setCell ⟨b3,4,none⟩ (.int .i64 x.c)) bi F (j+1) from (Below.heap_setCell W1 _ _ bi (Ne.symm kP.out.2.2.2.2.2.1)).trans KI.out) (KC.out.setCell (p:=⟨b3,4,none⟩) (.inr kP.out.2.2.2.2.2.2.2.1) (.int .i64 x.c)))))
    go_wp2_with fail
    refine (pG.out _ cl).mono ?_
    rintro e W9 ⟨rfl,rfl⟩
    go_wp2_with fail
    refine (oY.out _ dl).mono ?_
    rintro e W9 ⟨rfl,rfl⟩
    go_wp2_with fail
    go_roundw
    case rel=>exact ⟨j+1,by omega,ah HW.out.1,ah HW.out.2.1,HK,ah HW.out.2.2.1,ah HW.out.2.2.2⟩
    case measure=>rw [mV,HW.out.2.2.1.pos];omega
   ·simp only [td,ug,reduceIte,Nat.reduceEqDiff,Option.isSome] at pG oY
    simp only [jv,pu,reduceIte,Nat.reduceEqDiff] at pS oE
    have HK:=ah (show KB (W1.setCell ⟨b3,2,none⟩ (.int .i64 x.n)) b3 (ge x (F.take (j+1))) (ii (.slice A0 n0 c0) (F.take (j+1))) from by rw [pS.out,oE.out];exact K3.out.put 2 _ rfl)
    have HW:=ah (And.intro (show KB (W1.setCell ⟨b3,2,none⟩ (.int .i64 x.n)) b1 x (.slice A0 n0 c0) from K1.out.far kP.out.2.1 _) (And.intro (show KB (W1.setCell ⟨b3,2,none⟩ (.int .i64 x.n)) b2 zCl zV from K2.out.far kP.out.2.2.1 _) (And.intro (show Itr (W1.setCell ⟨b3,2,none⟩ (.int .i64 x.n)) bi F (j+1) from (Below.heap_setCell W1 _ _ bi (Ne.symm kP.out.2.2.2.2.2.1)).trans KI.out) (KC.out.setCell (p:=⟨b3,2,none⟩) (.inr kP.out.2.2.2.2.2.2.2.1) (.int .i64 x.n)))))
    go_wp2_with fail
    refine (pG.out _ cl).mono ?_
    rintro e W9 ⟨rfl,rfl⟩
    go_wp2_with fail
    refine (oY.out _ dl).mono ?_
    rintro e W9 ⟨rfl,rfl⟩
    go_wp2_with fail
    go_roundw
    case rel=>exact ⟨j+1,by omega,ah HW.out.1,ah HW.out.2.1,HK,ah HW.out.2.2.1,ah HW.out.2.2.2⟩
    case measure=>rw [mV,HW.out.2.2.1.pos];omega
   ·simp only [td,ug,reduceIte,Nat.reduceEqDiff,Option.isSome] at pG oY
    simp only [jv,pu,reduceIte,Nat.reduceEqDiff] at pS oE
    have HK:=ah (show KB (W1.setCell ⟨b3,5,none⟩ (.int .i64 x.a)) b3 (ge x (F.take (j+1))) (ii (.slice A0 n0 c0) (F.take (j+1))) from by rw [pS.out,oE.out];exact K3.out.put 5 _ rfl)
    have HW:=ah (And.intro (show KB (W1.setCell ⟨b3,5,none⟩ (.int .i64 x.a)) b1 x (.slice A0 n0 c0) from K1.out.far kP.out.2.1 _) (And.intro (show KB (W1.setCell ⟨b3,5,none⟩ (.int .i64 x.a)) b2 zCl zV from K2.out.far kP.out.2.2.1 _) (And.intro (show Itr (W1.setCell ⟨b3,5,none⟩ (.int .i64 x.a)) bi F (j+1) from (Below.heap_setCell W1 _ _ bi (Ne.symm kP.out.2.2.2.2.2.1)).trans KI.out) (KC.out.setCell (p:=⟨b3,5,none⟩) (.inr kP.out.2.2.2.2.2.2.2.1) (.int .i64 x.a)))))
    go_wp2_with fail
    refine (pG.out _ cl).mono ?_
    rintro e W9 ⟨rfl,rfl⟩
    go_wp2_with fail
    refine (oY.out _ dl).mono ?_
    rintro e W9 ⟨rfl,rfl⟩
    go_wp2_with fail
    go_roundw
    case rel=>exact ⟨j+1,by omega,ah HW.out.1,ah HW.out.2.1,HK,ah HW.out.2.2.1,ah HW.out.2.2.2⟩
    case measure=>rw [mV,HW.out.2.2.1.pos];omega
   ·simp only [td,ug,reduceIte,Nat.reduceEqDiff,Option.isSome] at pG oY
    simp only [jv,pu,reduceIte,Nat.reduceEqDiff] at pS oE
    have HK:=ah (show KB (W1.setCell ⟨b3,6,none⟩ (.int .i64 x.s)) b3 (ge x (F.take (j+1))) (ii (.slice A0 n0 c0) (F.take (j+1))) from by rw [pS.out,oE.out];exact K3.out.put 6 _ rfl)
    have HW:=ah (And.intro (show KB (W1.setCell ⟨b3,6,none⟩ (.int .i64 x.s)) b1 x (.slice A0 n0 c0) from K1.out.far kP.out.2.1 _) (And.intro (show KB (W1.setCell ⟨b3,6,none⟩ (.int .i64 x.s)) b2 zCl zV from K2.out.far kP.out.2.2.1 _) (And.intro (show Itr (W1.setCell ⟨b3,6,none⟩ (.int .i64 x.s)) bi F (j+1) from (Below.heap_setCell W1 _ _ bi (Ne.symm kP.out.2.2.2.2.2.1)).trans KI.out) (KC.out.setCell (p:=⟨b3,6,none⟩) (.inr kP.out.2.2.2.2.2.2.2.1) (.int .i64 x.s)))))
    go_wp2_with fail
    refine (pG.out _ cl).mono ?_
    rintro e W9 ⟨rfl,rfl⟩
    go_wp2_with fail
    refine (oY.out _ dl).mono ?_
    rintro e W9 ⟨rfl,rfl⟩
    go_wp2_with fail
    go_roundw
    case rel=>exact ⟨j+1,by omega,ah HW.out.1,ah HW.out.2.1,HK,ah HW.out.2.2.1,ah HW.out.2.2.2⟩
    case measure=>rw [mV,HW.out.2.2.1.pos];omega
   ·simp only [td,ug,reduceIte,Nat.reduceEqDiff,Option.isSome] at pG oY
    simp only [jv,pu,reduceIte,Nat.reduceEqDiff] at pS oE
    have HK:=ah (show KB (W1.setCell ⟨b3,7,none⟩ (.int .u8 x.r)) b3 (ge x (F.take (j+1))) (ii (.slice A0 n0 c0) (F.take (j+1))) from by rw [pS.out,oE.out];exact K3.out.put 7 _ rfl)
    have HW:=ah (And.intro (show KB (W1.setCell ⟨b3,7,none⟩ (.int .u8 x.r)) b1 x (.slice A0 n0 c0) from K1.out.far kP.out.2.1 _) (And.intro (show KB (W1.setCell ⟨b3,7,none⟩ (.int .u8 x.r)) b2 zCl zV from K2.out.far kP.out.2.2.1 _) (And.intro (show Itr (W1.setCell ⟨b3,7,none⟩ (.int .u8 x.r)) bi F (j+1) from (Below.heap_setCell W1 _ _ bi (Ne.symm kP.out.2.2.2.2.2.1)).trans KI.out) (KC.out.setCell (p:=⟨b3,7,none⟩) (.inr kP.out.2.2.2.2.2.2.2.1) (.int .u8 x.r)))))
    go_wp2_with fail
    refine (pG.out _ cl).mono ?_
    rintro e W9 ⟨rfl,rfl⟩
    go_wp2_with fail
    go_roundw
    case rel=>exact ⟨j+1,by omega,ah HW.out.1,ah HW.out.2.1,HK,ah HW.out.2.2.1,ah HW.out.2.2.2⟩
    case measure=>rw [mV,HW.out.2.2.1.pos];omega
   ·simp only [td,ug,reduceIte,Nat.reduceEqDiff,Option.isSome] at pG oY
    simp only [jv,pu,reduceIte,Nat.reduceEqDiff] at pS oE
    have HK:=ah (show KB ((W1.setCell ⟨b3,8,none⟩ (.int .u8 x.ok)).setCell ⟨b3,9,none⟩ (.int .u8 x.om)) b3 (ge x (F.take (j+1))) (ii (.slice A0 n0 c0) (F.take (j+1))) from by rw [pS.out,oE.out];exact (K3.out.put (y:={ y with ok:=x.ok }) 8 _ rfl).put 9 _ rfl)
    have HW:=ah (And.intro (show KB ((W1.setCell ⟨b3,8,none⟩ (.int .u8 x.ok)).setCell ⟨b3,9,none⟩ (.int .u8 x.om)) b1 x (.slice A0 n0 c0) from (K1.out.far (p:=⟨b3,8,none⟩) kP.out.2.1 _).far kP.out.2.1 _) (And.intro (show KB ((W1.setCell ⟨b3,8,none⟩ (.int .u8 x.ok)).setCell ⟨b3,9,none⟩ (.int .u8 x.om)) b2 zCl zV from (K2.out.far (p:=⟨b3,8,none⟩) kP.out.2.2.1 _).far kP.out.2.2.1 _) (And.intro (show Itr ((W1.setCell ⟨b3,8,none⟩ (.int .u8 x.ok)).setCell ⟨b3,9,none⟩ (.int .u8 x.om)) bi F (j+1) from (Below.heap_setCell _ ⟨b3,9,none⟩ _ bi (Ne.symm kP.out.2.2.2.2.2.1)).trans ((Below.heap_setCell W1 ⟨b3,8,none⟩ _ bi (Ne.symm kP.out.2.2.2.2.2.1)).trans KI.out)) ((KC.out.setCell (p:=⟨b3,8,none⟩) (.inr kP.out.2.2.2.2.2.2.2.1) (.int .u8 x.ok)).setCell (p:=⟨b3,9,none⟩) (.inr kP.out.2.2.2.2.2.2.2.1) (.int .u8 x.om)))))
    go_wp2_with fail
    refine (pG.out _ cl).mono ?_
    rintro e W9 ⟨rfl,rfl⟩
    go_wp2_with fail
    go_roundw
    case rel=>exact ⟨j+1,by omega,ah HW.out.1,ah HW.out.2.1,HK,ah HW.out.2.2.1,ah HW.out.2.2.2⟩
    case measure=>rw [mV,HW.out.2.2.1.pos];omega
   ·simp only [td,ug,reduceIte,Nat.reduceEqDiff,Option.isSome] at pG oY
    simp only [jv,pu,reduceIte,Nat.reduceEqDiff] at pS oE
    have HK:=ah (show KB (W1.setCell ⟨b3,10,none⟩ (.int .u64 x.h)) b3 (ge x (F.take (j+1))) (ii (.slice A0 n0 c0) (F.take (j+1))) from by rw [pS.out,oE.out];exact K3.out.put 10 _ rfl)
    have HW:=ah (And.intro (show KB (W1.setCell ⟨b3,10,none⟩ (.int .u64 x.h)) b1 x (.slice A0 n0 c0) from K1.out.far kP.out.2.1 _) (And.intro (show KB (W1.setCell ⟨b3,10,none⟩ (.int .u64 x.h)) b2 zCl zV from K2.out.far kP.out.2.2.1 _) (And.intro (show Itr (W1.setCell ⟨b3,10,none⟩ (.int .u64 x.h)) bi F (j+1) from (Below.heap_setCell W1 _ _ bi (Ne.symm kP.out.2.2.2.2.2.1)).trans KI.out) (KC.out.setCell (p:=⟨b3,10,none⟩) (.inr kP.out.2.2.2.2.2.2.2.1) (.int .u64 x.h)))))
    go_wp2_with fail
    refine (pG.out _ cl).mono ?_
    rintro e W9 ⟨rfl,rfl⟩
    go_wp2_with fail
    go_roundw
    case rel=>exact ⟨j+1,by omega,ah HW.out.1,ah HW.out.2.1,HK,ah HW.out.2.2.1,ah HW.out.2.2.2⟩
    case measure=>rw [mV,HW.out.2.2.1.pos];omega
   ·simp only [td,ug,reduceIte,Nat.reduceEqDiff,Option.isSome] at pG oY
    simp only [jv,pu,reduceIte,Nat.reduceEqDiff] at pS oE
    have HK:=ah (show KB (W1.setCell ⟨b3,11,none⟩ (.slice A0 n0 c0)) b3 (ge x (F.take (j+1))) (ii (.slice A0 n0 c0) (F.take (j+1))) from by rw [pS.out,oE.out];exact K3.out.put 11 _ rfl)
    have HW:=ah (And.intro (show KB (W1.setCell ⟨b3,11,none⟩ (.slice A0 n0 c0)) b1 x (.slice A0 n0 c0) from K1.out.far kP.out.2.1 _) (And.intro (show KB (W1.setCell ⟨b3,11,none⟩ (.slice A0 n0 c0)) b2 zCl zV from K2.out.far kP.out.2.2.1 _) (And.intro (show Itr (W1.setCell ⟨b3,11,none⟩ (.slice A0 n0 c0)) bi F (j+1) from (Below.heap_setCell W1 _ _ bi (Ne.symm kP.out.2.2.2.2.2.1)).trans KI.out) (KC.out.setCell (p:=⟨b3,11,none⟩) (.inr kP.out.2.2.2.2.2.2.2.1) (.slice A0 n0 c0)))))
    go_wp2_with fail
    refine (pG.out _ cl).mono ?_
    rintro e W9 ⟨rfl,rfl⟩
    go_wp2_with fail
    go_roundw
    case rel=>exact ⟨j+1,by omega,ah HW.out.1,ah HW.out.2.1,HK,ah HW.out.2.2.1,ah HW.out.2.2.2⟩
    case measure=>rw [mV,HW.out.2.2.1.pos];omega
  ·obtain rfl:j = F.length:=by omega
   rw [List.take_length] at k3
   have hnx:=ki.out.done
   go_wp2_with (first|refine ck rfl _ rfl rfl k3.out ?_|refine jz (y:=ge x F) (u:=ii (.slice A0 n0 c0) F) rfl _ _ rfl rfl rfl (iK rfl F) k2.out ?_;intro W7 h7 jI)
   refine bodyPost_ret (v:=.agg (clc (ge x F) (ii (.slice A0 n0 c0) F))) (results_cell_row (p:=2) (ty:=47) rfl _ _ b2 47 _ (0,0) _ rfl h7 Tryz.underlying47 rfl dx) rfl ⟨rfl,?_⟩
   exact kc.out.trans jI (fun y hy=>.inr (by obtain rfl:=aa hy;exact kP.out.2.2.2.2.2.2.1))
end Go.Proofs.YtfoleblcaloeoaaGreatDoor
