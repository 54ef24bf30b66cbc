/- Texts merged for the claim. -/
import Derived.Test.YtfoleblcaloeoaaGreatDoorZbq
set_option maxHeartbeats 40000000
set_option maxRecDepth 20000
namespace Go.Proofs.YtfoleblcaloeoaaGreatDoor
open Go Go.RowKit
theorem SW.one {w:World} {v:Value} {l:List Nat} (h:SW w v l):v.oneCell' = true:=by
 obtain ⟨A,c,e⟩:=SE.form h
 rw [e];rfl
theorem SO.one {w:World} {v:Value} {l:List Ob} (h:SE obl 2 92 w v l):v.oneCell' = true:=by
 obtain ⟨A,c,e⟩:=SE.form h
 rw [e];rfl
def CpyR (w w':World) (M:Mo) (L:List Ob) (E:List Nat) (gs:Nat→Sq) (e:Ending):Prop :=
 ∃b sp' vo' ve' L' gb' gm',e = .returned (.pointer (some ⟨b,0,none⟩))∧WIn w' b M sp' vo' ve' L' E gb' gm' gs∧L'.length = L.length∧∀k,FW' M b vo' ve' L' gb' gm' k→w.heap.size≤k∧k < w'.heap.size
theorem rk {w:World} {m:Nat} {M:Mo} {sp:Nat→Option Nat} {vo ve:Value} {L:List Ob} {E:List Nat} {gb gm:Nat→Nat} {gs:Nat→Sq} (h:WIn w m M sp vo ve L E gb gm gs) (nS:MoOk M) (hL:L.length≤500000) (hE:E.length≤500000) :
  Calls Tryz.prog 36 #[.pointer (some ⟨m,0,none⟩)] w fun e w'=>CpyR w w' M L E gs e∧Chg [] w w':=by
 have HI:=ah (fun W (hc:Chg [] w W)=>h.stay hc)
 have HOV:=ah (SO.one h.ob.sl)
 have HEV:=ah (SW.one h.ev.sl)
 have HSPN:=ah h.sp
 have pT:=ah h.rng
 have ml:=Blk.lt h.blk
 have HL:=ah hL
 have HE:=ah hE
 have rJ:=ah nS
 clear h hL hE nS
 go_enter Tryz.func36,Tryz.ntmps36
 go_upto_region 2 with (first|refine jy (b:=m) rfl _ rfl rfl (HI.out w (Chg.refl _ _)).blk ?_|refine ye rfl rfl ?_;intro W1 h1 jH;have H1:=ah h1;have lD:=ah jH;clear h1 jH|refine jl (b:=w.heap.size) (c:=M.c) (sp:=sp) (vo:=vo) (ve:=ve) rfl _ _ rfl rfl rfl HOV.out HEV.out H1.out ?_;intro W2 h2 jA;have H2:=ah h2;have jU:=ah (show Chg [] w W2 from lD.out.trans jA (fun y hy=>.inr (by obtain rfl:=aa hy;exact Nat.le_refl _)));clear h2 jA)
 obtain ⟨b,hb⟩:∃b,b = w.heap.size:=⟨_,rfl⟩
 rw [← hb] at H2 ⊢
 have HB:=ah hb
 clear hb H1 lD
 go_upto_region 3 with (fail)
 clear ml
 go_loopw [4] (fun iv wr=>∃(t:Nat) (g' m':Nat→Nat),t≤9∧iv = .int .i64 t∧Hid (CwI w wr b M sp vo ve gs t g' m')) (fun iv _=>9 - (intOf iv).toNat)
 case atStart=>exact ⟨0,fun _=>0,fun _=>0,by omega,rfl,ah ⟨jU.out,H2.out,Nat.le_of_eq HB.out.symm,fun j p hj=>by omega,fun j j' p p' hj=>by omega⟩⟩
 case round =>
  obtain ⟨t,g',m',ht,rfl,lC⟩:=hrel
  by_cases h9:t < 9
  ·have dl:decide ((t:Int) < 9) = true:=ae (by omega)
   have dl':decide (t < 9) = true:=ae h9
   have i0:(0:Int)≤(t:Int):=by omega
   have i1:(t:Int) < 9:=by omega
   have mS:IntKind.i64.wrap ((t:Int)+1) = (t:Int)+1:=by rw [IntKind.wrap_i64];omega
   have qs:=WIn.sp_at (HI.out wr lC.out.chg) h9
   have ml:=Blk.lt (HI.out wr lC.out.chg).blk
   have H9:=ah h9
   have kA:=ah lC.out
   clear lC ht h9
   cases hp:M.pr (t:Int) with
   | none =>
    rw [hp] at qs
    have HN:=ah hp
    clear hp
    go_wp2_with fail
    go_roundw
    case rel=>exact ⟨t+1,g',m',H9.out,by go_num,ah (kA.out.skip HN.out (by rw [HSPN.out t H9.out,HN.out];rfl))⟩
    case measure=>have:=H9.out;simp [intOf];omega
   | some p =>
    rw [hp] at qs
    have HP:=ah hp
    have hpr:=(HI.out wr kA.out.chg).pr t p hp
    have HQ:=ah hpr.1
    have HM:=ah hpr.2.1
    have gl:=Blk.lt hpr.1
    clear hp hpr
    go_upto_region 7 with (first|refine bA (b:=gb t) (s:=gs t) (bm:=gm t) rfl _ rfl rfl HQ.out ?_|refine yd rfl rfl ?_;intro W3 h3 jD Ca;have H3:=ah h3;have jE:=ah jD;have HZ3:=ah Ca;clear h3 jD Ca|refine yi (b:=wr.heap.size) (s:=gs t) (bm:=gm t) rfl _ _ rfl rfl rfl H3.out ?_;intro W4 h4 jT EI;have H4:=ah h4;have jR:=ah (show Chg [] wr W4 from jE.out.trans jT (fun y hy=>.inr (by obtain rfl:=aa hy;exact Nat.le_refl _)));have Fy:=ah (show W4.heap.size = wr.heap.size+1 by rw [EI];exact HZ3.out);clear h4 jT EI)
    obtain ⟨bs,BI⟩:∃y,y = wr.heap.size:=⟨_,rfl⟩
    rw [← BI] at H4 Fy ⊢
    have xK:=ah BI
    clear BI H3 jE HZ3 qs ml gl
    go_upto_region 8 with (first|refine qy (k:=.i64) rfl rfl ?_;intro W5 Es U hz5;have rI:=ah Es;have jL:=ah U;have HZ5:=ah hz5;have q5:=QB.bmap (Blk.chg H4.out U ab);have l5:=Blk.lt (Blk.chg H4.out U ab);have f5:=Blk.frozen (Blk.chg H4.out U ab) 1024;clear Es U hz5)
    obtain ⟨bm,rD⟩:∃y,y = W4.heap.size:=⟨_,rfl⟩
    rw [← rD] at rI HZ5 ⊢
    have vZ:=ah rD
    have hq6:QB (W5.setCell ⟨bs,1024,none⟩ (.map (some bm))) bs (gs t) bm:=QB.set_bm (Blk.chg H4.out jL.out ab) bm
    have iZ:Chg [bs] W5 (W5.setCell ⟨bs,1024,none⟩ (.map (some bm))):=(Chg.refl [bs] W5).setCell (p:=⟨bs,1024,none⟩) (.inl (by simp)) _
    have hz6:(W5.setCell ⟨bs,1024,none⟩ (.map (some bm))).heap.size = W5.heap.size:=qq _ _ _
    clear rD q5 l5 f5
    generalize W5.setCell ⟨bs,1024,none⟩ (.map (some bm)) = W6 at hq6 iZ hz6 ⊢
    have HQ6:=ah hq6
    have kR:=ah (show Chg [] wr W6 from (jR.out.stay jL.out).trans iZ (fun y hy=>.inr (by obtain rfl:=aa hy;exact Nat.le_of_eq xK.out.symm)))
    have AI:=ah (show MapB W6 bm .i64 (fun _=>none) from rI.out.chg iZ (by have h1:=xK.out;have h2:=vZ.out;have h3:=Fy.out;simp;omega))
    have HZ6:=ah (show W6.heap.size = bm+1 by have h1:=HZ5.out;omega)
    have Ck:=ah (show bm = bs+1 by have h1:=xK.out;have h2:=vZ.out;have h3:=Fy.out;omega)
    clear hq6 iZ hz6 H4 jR Fy rI jL HZ5
    have hp6:=(HI.out W6 (kA.out.chg.stay kR.out)).pr t p HP.out
    have q8:=QB.bmap hp6.1
    have l8:=Blk.lt hp6.1
    have Fi:=ah hp6.2.1
    have qs:=WIn.sp_at (HI.out W6 (kA.out.chg.stay kR.out)) H9.out
    rw [HP.out] at qs
    have ml:=Blk.lt (HI.out W6 (kA.out.chg.stay kR.out)).blk
    clear hp6
    go_upto_region 9 with (first|refine gi (k:=.i64) (b:=gm t) rfl _ rfl Tryz.underlying96 rfl Fi.out ?_;intro W7 n7 Gk jI hz7;have xP:=ah Gk;have qX:=ah jI;have HZ7:=ah hz7;clear Gk jI hz7;try go_simp)
    obtain ⟨r,hr⟩:∃y,y = W6.heap.size:=⟨_,rfl⟩
    rw [← hr] at xP ⊢
    have HR:=ah (show r = bm+1 by rw [hr];exact HZ6.out)
    have qN:=ah (show CmI wr W7 bs bm r (gs t) (fun z=>(byF (gs t) z).isSome) from ⟨kR.out.stay qX.out,Blk.chg HQ6.out qX.out ab,by
     have e:(fun z=>if (byF (gs t) z).isSome = true then none else byF (gs t) z) = fun _=>none:=by
      funext z
      cases byF (gs t) z <;> rfl
     rw [e]
     exact AI.out.stay qX.out,by have h1:=xK.out;have h2:=Ck.out;have h3:=HR.out;omega,by have h1:=xK.out;have h2:=Ck.out;have h3:=HR.out;omega⟩)
    have HGM:=ah (show gm t < wr.heap.size from HM.out.lt)
    have kP:=ah (show gm t≠r∧gm t≠bm by have h1:=HGM.out;have h2:=xK.out;have h3:=Ck.out;have h4:=HR.out;omega)
    clear hr q8 l8 qs ml AI HQ6 Fi HZ6 HZ7
    go_loopw [] (fun wy=>∃(left:Int→Bool) (n:Nat),Hid (CmI wr wy bs bm r (gs t) left)∧Hid (MapIt wy (gm t) r .i64 (byF (gs t)) left n)) (fun wy=>si wy (gm t) r)
    case atStart=>exact ⟨_,_,qN,xP⟩
    case round =>
     obtain ⟨left,n,uM,nJ⟩:=hrel
     have mV:=nJ.out.left_eq
     have tU:=ah uM.out
     have HITI:=ah nJ.out
     clear uM nJ
     go_wp2_with (refine ie rfl _ rfl rfl HITI.out ?_ ?_)
     ·intro h1 h2
      have HD:=ah (tU.out.done h2)
      have hbw:WB wr b M.c (fun j=>if j < t then (M.pr j).map fun _=>g' j else sp j) vo ve:=Blk.chg kA.out.blk tU.out.chg ab
      have qb:=WB.spc hbw H9.out
      have fb:=Blk.frozen hbw (94+t)
      have lb:=Blk.lt hbw
      clear h1 h2 mV hbw
      go_wp2_with fail
      go_roundw
      case rel=>exact ⟨t+1,_,_,H9.out,by go_num,ah (kA.out.step HP.out H9.out tU.out.chg (fun _ h=>by cases h) tU.out.qb HD.out tU.out.g.1 tU.out.g.2.1)⟩
      case measure=>have:=H9.out;simp [intOf];omega
     ·intro z v w' n' h1 h2 h3 h4 h5 h6 h7
      have lD:=ah (tU.out.next h5)
      have HZV:=ah h2
      have qZ:=ah h3
      have q1:=QB.bmap lD.out.qb
      have l1:=Blk.lt lD.out.qb
      have jF:=h4
      obtain ⟨vz,rfl⟩:∃vz:Nat,v = .int .u8 vz:=by
       have oG:=h2
       unfold byF at oG
       rw [Option.map_eq_some_iff] at oG
       obtain ⟨y,-,hy⟩:=oG
       exact ⟨y,hy.symm⟩
      clear h1 h2 h3 h4 h5 h6
      go_wp2_with (refine sc (b:=bm) rfl _ _ _ rfl Tryz.underlying96 Tryz.underlying3 rfl rfl rfl lD.out.mp ?_;intro W8 hm8 mP)
      have vG:=ah (lD.out.step HZV.out mP hm8)
      have rR:=ah (qZ.out.chg mP (by simp;exact kP.out.2) (by simp;exact lD.out.ne.2))
      clear hm8 mP q1 l1
      go_roundw
      case rel =>
       (repeat apply Exists.intro)
       refine ⟨⟨_,_,vG,rR⟩,rfl⟩
      case measure=>rw [mV,rR.out.left_eq];exact jF
  ·obtain rfl:t = 9:=by omega
   have dl:decide (((9:Nat):Int) < 9) = false:=by decide
   have kA:=ah lC.out
   have q1:=WB.voc lC.out.blk
   have l1:=Blk.lt lC.out.blk
   have f1:=Blk.frozen lC.out.blk 103
   clear lC ht h9
   go_upto_region 14 with (fail)
   have hbA:=WB.set_vo kA.out.blk (.slice none 0 0)
   have wJ:Chg [b] wr (wr.setCell ⟨b,103,none⟩ (.slice none 0 0)):=(Chg.refl [b] wr).setCell (p:=⟨b,103,none⟩) (.inl (by simp)) _
   clear q1 l1 f1
   generalize wr.setCell ⟨b,103,none⟩ (.slice none 0 0) = WA at hbA wJ ⊢
   have nU:=ah hbA
   have tN:=ah wJ
   have Cq:=ah (show Chg [] w WA from kA.out.chg.trans wJ (fun y hy=>.inr (by obtain rfl:=aa hy;exact kA.out.gb)))
   have HPRA:=ah (show ∀(j:Nat) p,j < 9→M.pr j = some p→QB WA (g' j) (gs j) (m' j)∧MapB WA (m' j) .i64 (byF (gs j))∧w.heap.size≤g' j∧w.heap.size≤m' j from fun j p hj hp=>by
    obtain ⟨c1,c2,c3,c4⟩:=kA.out.pr j p hj hp
    exact ⟨Blk.chg c1 wJ (by simp;exact fun x=>Blk.ne_ kA.out.blk c1 (by decide) x.symm),c2.chg wJ (by simp;exact fun x=>Blk.ne_map kA.out.blk c2 x.symm),c3,c4⟩)
   have Ab:=ah kA.out.ib
   have AG:=ah kA.out.gb
   clear hbA wJ kA
   go_upto_region 15 with (fail)
   go_loopw [8] (fun iv wr=>∃(t:Nat) (vo':Value) (L':List Ob),t≤L.length∧iv = .int .i64 t∧Hid (CoI WA wr vo' L L' t)∧Hid (WB wr b M.c (fun j=>if j < 9 then (M.pr j).map fun _=>g' j else sp j) vo' ve)∧Hid (Chg [b] WA wr)) (fun iv _=>L.length - (intOf iv).toNat)
   case atStart=>exact ⟨0,_,[],by omega,rfl,ah (CoI.zero _ _ _),nU,ah (Chg.refl _ _)⟩
   case round =>
    obtain ⟨t,vo',L',ht,rfl,hco,hwb,jV⟩:=hrel
    have vA:=ah hco.out
    have AU:=ah hwb.out
    have mZ:=ah (show Chg [] w wr from Cq.out.trans jV.out (fun y hy=>.inr (by obtain rfl:=aa hy;exact AG.out)))
    have rP:=ah jV.out
    have hI:=HI.out wr mZ.out
    have Ej:=ah hI.ob.sl.re
    obtain ⟨A,c,sP⟩:=SE.form hI.ob.sl
    have sI:=ah sP
    have q:=WB.voc hI.blk
    rw [sP] at q
    have ml:=Blk.lt hI.blk
    have xU:=ah (SE.max hI.ob.sl)
    clear hco hwb jV hI sP
    by_cases jF:t < L.length
    ·have dl:decide ((t:Int) < (L.length:Int)) = true:=ae (by omega)
     have dl':decide (t < L.length) = true:=ae jF
     have i0:(0:Int)≤(t:Int):=by omega
     have i1:(t:Int) < (L.length:Int):=by omega
     have mS:IntKind.i64.wrap ((t:Int)+1) = (t:Int)+1:=by rw [IntKind.wrap_i64];have:=HL.out;omega
     have jK:=ah jF
     obtain ⟨zh,vW⟩:∃z:Nat,z = L[t].h:=⟨_,rfl⟩
     obtain ⟨u,hu⟩:∃u,u = L[t].v:=⟨_,rfl⟩
     obtain ⟨B,hB⟩:∃B,B = L[t].l:=⟨_,rfl⟩
     have lW:=((HI.out wr mZ.out).ob.bt L[t] (List.getElem_mem jF)).1
     rw [← hu,← hB] at lW
     have pU:=Ej.out
     rw [sI.out] at pU
     obtain ⟨g,off,rfl⟩:=RE.addr pU (show 0 < L.length by omega)
     have HZH:=ah (And.intro vW (And.intro hu hB))
     have qP:=ah (fun W (hc:Chg [] wr W)=>SE.stay lW hc)
     have Fs:=ah (fun W (hc:Chg [] wr W)=>RE.stay pU hc)
     have Cj:=ah (show B.length≤128 from by have h1:=(HI.out wr mZ.out).ob.at_ jF;rw [hB];exact (rJ.out.ob _ _ h1).2)
     clear vW hu hB lW pU ht jF
     go_upto_region 17 with (fail)
     clear q ml
     refine rgt [0,5,0,0,0,5,0,0,0,5,6,0,0,0,5,0,0,0,5,6,0,6,3,0,3] [none,none,none,none,none,none,none,none,none,none,none,none,none,none,none,none,none,none,none,none,none,none,none,none,none] (fun W=>Chg [] wr W) ?_
     have hS:Chg [] wr wr.drew:=(Chg.refl [] wr).drew
     generalize wr.drew = W5 at hS ⊢
     have AH:=ah (fun W (h:Chg [] wr W)=>(fz Tryz.underlying77 (WB.voc (Blk.chg AU.out h ab)):(loadVar 77 ⟨b,103,none⟩).run Tryz.prog W = .ok vo' W))
     have vC:=ah (fun W (h:Chg [] wr W)=>(fz Tryz.underlying77 (by rw [← sI.out];exact WB.voc (HI.out W (mZ.out.stay h)).blk):(loadVar 77 ⟨m,103,none⟩).run Tryz.prog W = .ok (.slice (some ⟨g,off,none⟩) L.length c) W))
     have Fg:=ah (fun W (h:Chg [] wr W)=>(cr Tryz.underlying37 (by rw [HZH.out.1];simpa using RE.cell mq (Fs.out W h) jK.out (j:=0) (u:=.int .u64 L[t].h) (by omega) rfl):(loadVar 37 ⟨g,off+t * 2,none⟩).run Tryz.prog W = .ok (.int .u64 zh) W))
     have HL4:=ah (fun W (h:Chg [] wr W)=>(fz Tryz.underlying38 (by rw [HZH.out.2.1];exact RE.cell mq (Fs.out W h) jK.out (j:=1) (u:=L[t].v) (by omega) rfl):(loadVar 38 ⟨g,off+t * 2+1,none⟩).run Tryz.prog W = .ok u W))
     have lb:=Blk.lt (Blk.chg AU.out hS ab)
     have ml:=Blk.lt (HI.out W5 (mZ.out.stay hS)).blk
     go_wp2_with (first|refine al 77 _ rfl rfl AH.out hS ?_|refine al 77 _ rfl rfl vC.out hS ?_|refine al 37 _ rfl rfl Fg.out hS ?_|refine al 38 _ rfl rfl HL4.out hS ?_|refine av fun K I=>?_|refine ai fun K I=>?_;go_simp;refine I _ _ ?_;clear I K|refine ao fun K I=>?_;go_simp|refine aj ?_)
     (refine aw hS fun K I=>?_)
     go_simp
     obtain ⟨W6,wZ⟩:∃W,W = W5.alloc (.cells #[] 5):=⟨_,rfl⟩
     have iZ:Chg [] W5 W6:=by rw [wZ];exact (Chg.refl [] _).alloc _
     have DA:SB W6 (.slice (some ⟨W5.heap.size,0,none⟩) 0 0) []:=by rw [wZ];exact zu W5
     try rw [← wZ]
     obtain ⟨b9,qR⟩:∃y,y = W5.heap.size:=⟨_,rfl⟩
     rw [← qR] at DA ⊢
     have AA:=ah (show wr.heap.size≤b9 by have:=hS.size;omega)
     have AQ:=ah DA
     replace hS:Chg [] wr W6:=hS.stay iZ
     refine I _ _ hS ?_
     clear I K wZ qR iZ DA ml lb
     have lb:=Blk.lt (Blk.chg AU.out hS ab)
     have ml:=Blk.lt (HI.out W6 (mZ.out.stay hS)).blk
     go_wp2_with (first|refine al 77 _ rfl rfl AH.out hS ?_|refine al 77 _ rfl rfl vC.out hS ?_|refine al 37 _ rfl rfl Fg.out hS ?_|refine al 38 _ rfl rfl HL4.out hS ?_|refine av fun K I=>?_|refine ai fun K I=>?_;go_simp;refine I _ _ ?_;clear I K|refine ao fun K I=>?_;go_simp|refine aj ?_)
     obtain ⟨Au,cu,rfl⟩:∃A c,u = .slice A B.length c:=SE.form (qP.out wr (Chg.refl _ _))
     (refine aw hS fun K I=>?_)
     refine rb _ _ rfl (.slice (some ⟨b9,0,none⟩) 0 0) (.slice Au B.length cu) rfl rfl (l:=[]) (m:=B) AQ.out (qP.out W6 hS).re (by have:=Cj.out;simp;omega) ?_
     have zW:wr.heap.size≤W6.heap.size:=hS.size
     intro A7 n7 c7 W7 Gt DB jI BL
     replace hS:Chg [] wr W7:=hS.trans jI (fun y hy=>.inr (by rw [gh] at hy;obtain rfl:=aa hy;exact AA.out))
     refine I _ _ hS ?_
     rw [List.nil_append] at Gt DB
     have Ei:=ah DB
     have zZ:=ah (show ∀i∈own (.slice A7 n7 c7),wr.heap.size≤i from fun i hi=>by
      rcases BL i hi with h1 | h1
      ·rw [gh] at h1;obtain rfl:=aa h1;exact AA.out
      ·exact ag zW h1)
     have HBO:=ah (bo_of zh A7 n7 c7)
     clear I K zW DB jI BL AQ Gt ml lb
     have lb:=Blk.lt (Blk.chg AU.out hS ab)
     go_wp2_with (first|refine av fun K I=>?_;refine xt _ rfl HBO.out ?_ ?_;(focus (simp [Act.eval];done));refine I _ _ ?_;clear I K|refine av fun K I=>?_|refine ai fun K I=>?_;go_simp;refine I _ _ ?_;clear I K|refine ao fun K I=>?_;go_simp|refine aj ?_)
     (refine aw hS fun K I=>?_)
     go_simp
     obtain ⟨W8,hW8⟩:∃W,W = W7.alloc (.cells #[.int .u64 zh,.slice A7 n7 c7] 92):=⟨_,rfl⟩
     have mP:Chg [] W7 W8:=by rw [hW8];exact (Chg.refl [] _).alloc _
     have hr8:RE obl 2 W8 (.slice (some ⟨W7.heap.size,0,none⟩) 1 1) [⟨zh,B,.slice A7 n7 c7⟩]:=by rw [hW8];exact OB_one W7 zh B _
     try rw [← hW8]
     obtain ⟨b10,yO⟩:∃y,y = W7.heap.size:=⟨_,rfl⟩
     rw [← yO] at hr8 ⊢
     have HR8:=ah hr8
     have CD:=ah (SE.stay Ei.out mP)
     replace hS:Chg [] wr W8:=hS.stay mP
     refine I _ _ hS ?_
     clear I K hW8 yO mP hr8 lb
     have lb:=Blk.lt (Blk.chg AU.out hS ab)
     have lL:=ah hS
     have HCO8:=ah (vA.out.stay hS)
     obtain ⟨Ao,co,rfl⟩:=SE.form vA.out.sl
     have tG:L'.length = t:=vA.out.len
     rw [tG]
     have Ea:=ah tG
     have wD:=ah (show SE obl 2 92 W8 (.slice Ao t co) L' from by have:=HCO8.out.sl;rw [tG] at this;exact this)
     clear tG
     (refine ao fun K I=>?_)
     refine kr _ _ rfl (.slice Ao t co) (.slice (some ⟨b10,0,none⟩) 1 1) rfl rfl wD.out HR8.out (fun o ho=>by obtain rfl:=aa ho;rfl) (by have h1:=Ea.out;have h2:=HL.out;have h3:=jK.out;simp;omega) ?_
     intro A9 n9 c9 W9 mW nT kE mU
     have zQ:WB W9 b M.c (fun j=>if j < 9 then (M.pr j).map fun _=>g' j else sp j) (.slice Ao L'.length co) ve:=Blk.chg (Blk.chg AU.out hS ab) kE (fun hk=>SE.not_blk wD.out (Blk.chg AU.out hS ab) (by decide) hk)
     have q9:=WB.voc zQ
     have l9:=Blk.lt zQ
     have f9:=Blk.frozen zQ 103
     have CI:=ah zQ
     have AD:=ah (show CoI WA W9 (.slice A9 n9 c9) L (L' ++ [⟨L[t]'jK.out |>.h,L[t]'jK.out |>.l,.slice A7 n7 c7⟩]) (t+1) from by
      have e1:=HZH.out.1
      have e2:=HZH.out.2.2
      rw [e1,e2] at nT
      refine vA.out.step jK.out rP.out.size lL.out (by have h:=CD.out;rw [e2] at h;exact h) zZ.out (by rw [Ea.out];exact kE) nT (by rw [Ea.out];exact mU))
     have mB:=ah (show Chg [b] WA W9 from (rP.out.stay lL.out).trans kE (fun y hy=>.inr (vA.out.go y (by rw [Ea.out];exact hy))))
     refine I _ _ ?_
     clear I K mW nT kE mU zQ hS lb
     go_upto_region 16 with (first|refine av fun K I=>?_|refine ai fun K I=>?_;go_simp;refine I _ _ ?_;clear I K|refine ao fun K I=>?_;go_simp|refine aj ?_)
     have yO:=WB.set_vo CI.out (.slice A9 n9 c9)
     have Dc:Chg [b] W9 (W9.setCell ⟨b,103,none⟩ (.slice A9 n9 c9)):=(Chg.refl [b] W9).setCell (p:=⟨b,103,none⟩) (.inl (by simp)) _
     have FV:=AD.out.chg Dc (fun y hy=>by simp;exact fun e=>SE.not_blk AD.out.sl CI.out (by decide) (e ▸ hy)) (fun o ho y hy=>by
      obtain ⟨j,hj,rfl⟩:=List.getElem_of_mem ho
      simp
      exact fun e=>SE.not_blk (AD.out.ho j hj (by have h1:=AD.out.len;have h2:=jK.out;omega)).2.2.1 CI.out (by decide) (e ▸ hy))
     have HX1:=ah yO
     have HX2:=ah FV
     have HX3:=ah (mB.out.and_ Dc)
     clear q9 l9 f9 yO Dc FV
     go_wp2_with fail
     go_roundw
     case rel =>
      (repeat apply Exists.intro)
      refine ⟨⟨t+1,_,_,jK.out,?_,HX2,HX1,HX3⟩,rfl⟩
      go_num
     case measure=>have:=jK.out;simp [intOf];omega
    ·obtain rfl:t = L.length:=by omega
     have dl:decide (((L.length:Nat):Int) < (L.length:Int)) = false:=ac (by omega)
     have EZ:=ah (HI.out wr mZ.out).ev.sl.re
     obtain ⟨Ae,ce,EF⟩:=RE.form EZ.out
     have HVE:=ah EF
     have HSWN:=ah (SW_none wr)
     have rE:Chg [] wr (wr.alloc (.cells #[] 37)):=(Chg.refl [] wr).alloc _
     have EW:=ah rE
     have uA:=ah (show RE wcl 1 (wr.alloc (.cells #[] 37)) (.slice Ae E.length ce) E from by have:=RE.stay EZ.out rE;rw [EF] at this;exact this)
     have DZ:=ah (show ([]:List Nat).length+E.length≤1000000 by have:=HE.out;simp;omega)
     have q2:=WB.vec (HI.out _ (mZ.out.stay rE)).blk
     rw [EF] at q2
     have ml2:=Blk.lt (HI.out _ (mZ.out.stay rE)).blk
     clear jF ht EF rE Ej
     go_upto_region 19 with (first|at_builtin;refine va rfl _ _ rfl (.slice (some ⟨wr.heap.size,0,none⟩) 0 0) (.slice Ae E.length ce) rfl rfl (l:=[]) (m:=E) HSWN.out uA.out DZ.out ?_;intro A9 n9 c9 W9 mW nT kE mU;rw [List.nil_append] at nT;have HS9:=ah nT;have Aa:=ah mU;have mB:=ah (show Chg [] wr W9 from EW.out.trans kE (fun y hy=>.inr (by rw [gh] at hy;obtain rfl:=aa hy;exact Nat.le_refl _)));have qR:=Blk.chg AU.out mB.out ab;have q9:=WB.vec qR;have l9:=Blk.lt qR;have f9:=Blk.frozen qR 104;clear mW nT kE mU qR)
     have qR:WB W9 b M.c (fun j=>if j < 9 then (M.pr j).map fun _=>g' j else sp j) vo' ve:=Blk.chg AU.out mB.out ab
     have Eo:=WB.set_ve qR (.slice A9 n9 c9)
     have yR:Chg [b] W9 (W9.setCell ⟨b,104,none⟩ (.slice A9 n9 c9)):=(Chg.refl [b] W9).setCell (p:=⟨b,104,none⟩) (.inl (by simp)) _
     clear q9 l9 f9
     generalize W9.setCell ⟨b,104,none⟩ (.slice A9 n9 c9) = Wz at Eo yR ⊢
     have HZB:=ah Eo
     have HZC:=ah yR
     have AA:=ah qR
     clear qR Eo yR
     go_wp2_with fail
     go_ret
     have mU:∀i∈own (.slice A9 n9 c9),WA.heap.size≤i:=fun i hi=>by
      have h0:=rP.out.size
      rcases Aa.out i hi with h1 | h1
      ·rw [gh] at h1;obtain rfl:=aa h1;exact h0
      ·have:=EW.out.size;omega
     have wJ:Chg [b] WA Wz:=(rP.out.stay mB.out).and_ HZC.out
     have hzA:=Cq.out.size
     have zX:=wJ.size
     have Bc:CoI WA Wz vo' L L' L.length:=(vA.out.stay mB.out).chg HZC.out (fun y hy=>by simp;exact fun e=>SE.not_blk (vA.out.stay mB.out).sl AA.out (by decide) (e ▸ hy)) (fun o ho y hy=>by
      obtain ⟨j,hj,rfl⟩:=List.getElem_of_mem ho
      simp
      exact fun e=>SE.not_blk ((vA.out.stay mB.out).ho j hj (by have h1:=vA.out.len;omega)).2.2.1 AA.out (by decide) (e ▸ hy))
     have GG:SW Wz (.slice A9 n9 c9) E:=SE.chg HS9.out HZC.out (fun y hy=>by simp;exact fun e=>SE.not_blk HS9.out AA.out (by decide) (e ▸ hy))
     have Dx:∀(j:Nat) p,j < 9→M.pr j = some p→QB Wz (g' j) (gs j) (m' j)∧MapB Wz (m' j) .i64 (byF (gs j))∧w.heap.size≤g' j∧w.heap.size≤m' j:=fun j p hj hp=>by
      obtain ⟨c1,c2,c3,c4⟩:=HPRA.out j p hj hp
      exact ⟨Blk.chg c1 wJ (by simp;exact fun x=>Blk.ne_ nU.out c1 (by decide) x.symm),c2.chg wJ (by simp;exact fun x=>Blk.ne_map nU.out c2 x.symm),c3,c4⟩
     have h9:∀(j:Nat) p,M.pr (j:Int) = some p→j < 9:=fun j p hp=>by have:=pT.out _ p hp;omega
     refine ⟨⟨b,_,vo',.slice A9 n9 c9,L',g',m',rfl,⟨HZB.out,Bc.end_ (HI.out w (Chg.refl _ _)).ob,⟨GG,(HI.out w (Chg.refl _ _)).ev.e64,(HI.out w (Chg.refl _ _)).ev.lk⟩,fun j hj=>if_pos hj,pT.out,fun j p hp=>?_,fun j j' p p' hp nM jO=>Ab.out j j' p p' (h9 j p hp) (h9 j' p' nM) hp nM jO⟩,vA.out.len,fun k hk=>?_⟩,Cq.out.trans wJ (fun y hy=>.inr (by obtain rfl:=aa hy;exact AG.out))⟩
     ·obtain ⟨c1,c2,-,-⟩:=Dx j p (h9 j p hp) hp
      exact ⟨c1,c2,((HI.out w (Chg.refl _ _)).pr j p hp).2.2⟩
     ·rcases hk with rfl | hk | hk | ⟨o,ho,hk⟩ | ⟨j,p,hp,rfl | rfl⟩
      ·exact ⟨AG.out,Blk.lt HZB.out⟩
      ·have h1:=Bc.go k hk
       exact ⟨by omega,SE.own_lt Bc.sl k hk⟩
      ·have h1:=mU k hk
       exact ⟨by omega,SE.own_lt GG k hk⟩
      ·obtain ⟨j,hj,rfl⟩:=List.getElem_of_mem ho
       obtain ⟨-,-,c3,c4⟩:=Bc.ho j hj (by have h1:=vA.out.len;omega)
       have h1:=c4 k hk
       exact ⟨by omega,SE.own_lt c3 k hk⟩
      ·obtain ⟨c1,c2,c3,c4⟩:=Dx j p (h9 j p hp) hp
       exact ⟨c3,Blk.lt c1⟩
      ·obtain ⟨c1,c2,c3,c4⟩:=Dx j p (h9 j p hp) hp
       exact ⟨c4,c2.lt⟩
end Go.Proofs.YtfoleblcaloeoaaGreatDoor
