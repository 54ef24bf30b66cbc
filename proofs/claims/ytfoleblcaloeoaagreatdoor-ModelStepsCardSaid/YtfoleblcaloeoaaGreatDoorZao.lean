import Derived.Test.YtfoleblcaloeoaaGreatDoorZan
import Derived.Laws.CopyRow
set_option maxHeartbeats 40000000
set_option maxRecDepth 20000
namespace Go.Proofs.YtfoleblcaloeoaaGreatDoor
open Go Go.RowKit
variable {f:Int→Option Value} {b:Nat} {w:World}
theorem MapB.congr {k:IntKind} {g:Int→Option Value} (h:MapB w b k f) (e:∀z,f z = g z):MapB w b k g:=by have:f = g:=funext e;rwa [← this]
variable {k:Nat} {g:Int}
theorem cV (y:Int):(if y = g+(k:Int) then none else if inR g (k:Int) y then none else f y) = if inR g ((k+1:Nat):Int) y then none else f y:=by
 unfold inR;by_cases h1:y = g+(k:Int)
 ·rw [ah h1,ah (by simp;omega)]
 ·rw [ag h1];by_cases h2:g≤y∧y < g+(k:Int)
  ·rw [ah (by simpa using h2),ah (by simp;omega)]
  ·rw [ag (by simpa using h2),ag (by simp;omega)]
theorem cW (y:Int):f y = if inR g ((0:Nat):Int) y then none else f y:=by unfold inR;rw [ag (by simp)]
section
variable {w W:World} {m:Nat} {M:Mo} {O:Nat→Prop} {bp bo be:Nat} {fp fo fe:Int→Option Value} {gb:Int→Nat} {GF:Int→Nat→Prop} {ov:Int→Value}
theorem eV (hI:MIn w m M bp bo be fp fo fe gb GF ov) (hO:∀k,FMo M m bp bo be GF ov k→O k) (hl:∀k,O k→k < w.heap.size) {pid:Int} {p:Pr} (hp:M.pr pid = some p)
  {d:Nat} {FA:List Nat} {qp qo:Nat} {gp' go':Int→Option Value} {gp:Int→Nat} (hP:PIn w (gb pid) p d FA qp qo gp' go' gp) (mI:∀k,FPr p (gb pid) FA qp qo gp k→GF pid k) (pA:∀k,GF pid k→k < w.heap.size)
  {d':Nat} {F':List Nat} {rl':List Ar.Rn} {pg':Int→Option (List Nat)} {ow':Int→Option (Nat × Nat)} {fp'' fo'':Int→Option Value}
  (hc:Chg [gb pid,qp,qo] w W) (hb:Blk W (gb pid) 113 (prc d' qp qo p)) (hA:Ar.AMem W d' rl' F') (hS:Ar.Sp rl') (hF:∀k∈F',¬ O k)
  (h1:MapB W qp .i64 fp'') (h2:MapB W qo .i64 fo'') (h3:∀n,fp'' n = (pg' n).map fun _=>.pointer (some ⟨gp n,0,none⟩)) (h4:∀n,fo'' n = (ow' n).map fun q=>.agg #[.int .u8 q.1,.int .u8 q.2])
  (h5:∀n B,pg' n = some B→p.pg n = some B) (h6:∀n q,ow' n = some q→p.ow n = some q) :
  CP O w W∧∃O',MMem W m { M with pr:=upd M.pr pid (some { p with rl:=rl',pg:=pg',ow:=ow' }) } O'∧∀k,O' k→O k∨k∈F':=by
 have hG:CP (fun k=>k = gb pid∨k = qp∨k = qo) w W:=CP.of hc (fun k hk=>.inl (by simpa using hk));have nN:CP (GF pid) w W:=CP.of hc (fun k hk=>.inl (by
  simp at hk
  rcases hk with rfl | rfl | rfl
  ·exact mI _ (.inl rfl)
  ·exact mI _ (.inr (.inr (.inl rfl)))
  ·exact mI _ (.inr (.inr (.inr (.inl rfl))))))
 have mW:=hc.size;obtain ⟨r1,O',r2,r3⟩:=ya (F':=fun k=>GF pid k∨k∈F') hI hO hl hp nN (p':={ p with rl:=rl',pg:=pg',ow:=ow' })
  ⟨d',F',qp,qo,fp'',fo'',gp,⟨hb,hA,hS,h1,h2,h3,h4,fun n B hB=>(hP.pg n B (h5 n B hB)).cp hG (by
    have hk:=hP.pg n B (h5 n B hB)
    rintro (e | e | e)
    ·exact Blk.ne_ hk.blk hP.blk (by decide) e
    ·exact bj hk.blk hP.mp e
    ·exact bj hk.blk hP.mo e),fun n n' B B' e e'=>hP.inj n n' B B' (h5 n B e) (h5 n' B' e'),hP.ne,hP.pk,hP.pm,fun n q e=>hP.ow n q (h6 n q e)⟩,by
   rintro k (rfl | hk | rfl | rfl | ⟨n,B,hB,rfl⟩)
   ·exact .inl (mI _ (.inl rfl))
   ·exact .inr hk
   ·exact .inl (mI _ (.inr (.inr (.inl rfl))))
   ·exact .inl (mI _ (.inr (.inr (.inr (.inl rfl)))))
   ·exact .inl (mI _ (.inr (.inr (.inr (.inr ⟨n,B,h5 n B hB,rfl⟩))))),by
   rintro k (hk | hk)
   ·have:=pA k hk;omega
   ·exact hA.lt k hk⟩ (fun k hk=>hk.imp id (hF k))
 refine ⟨r1,O',r2,fun k hk=>?_⟩;rcases r3 k hk with h | h | h
 ·exact .inl h
 ·exact .inl (hO k (.inr (.inr (.inr (.inr (.inl ⟨pid,p,hp,h⟩))))))
 ·exact .inr h
end
variable {ov:Int→Value} {GF:Int→Nat→Prop} {gb:Int→Nat} {fp fo fe:Int→Option Value} {bp bo be m:Nat} {O:Nat→Prop} {M:Mo}
theorem iY
  (hI:MIn w m M bp bo be fp fo fe gb GF ov) (hO:∀k,FMo M m bp bo be GF ov k→O k) (hl:∀k,O k→k < w.heap.size) {pid:Int} {p:Pr} (hp:M.pr pid = some p)
  {b6 b2 b3 d':Nat} {F':List Nat} {rl':List Ar.Rn} {x:Cl} {v:Value} (h6:Blk w b6 109 #[.pointer (some ⟨d',0,none⟩)]) (h2:Blk w b2 103 #[.pointer (some ⟨gb pid,0,none⟩)]) (h3:KB w b3 x v)
  (hA:Ar.AMem w d' rl' F') (hS:Ar.Sp rl') (hF:∀k∈F',¬ O k) (hx:x.k = 4→0≤x.g∧x.g≤1024∧0≤x.c∧x.c≤1024) :
  Calls Tryz.prog 98 #[.pointer (some ⟨b6,0,none⟩),.pointer (some ⟨b2,0,none⟩),.pointer (some ⟨b3,0,none⟩)] w fun e W'=>e = .returned (.tuple #[])∧CP O w W' ∧
   ∃O',MMem W' m { M with pr:=upd M.pr pid (some (if x.k = 4 then { p with rl:=rl',pg:=fun q=>if inR x.g x.c q then none else p.pg q,ow:=fun q=>if inR x.g x.c q then none else p.ow q } else { p with rl:=rl' })) } O'∧∀k,O' k→O k∨k∈F':=by
 obtain ⟨d,FA,qp,qo,gp',go',gp,hP,mI,pA⟩:=hI.pr pid p hp;have nD:=bk (fun W pg' ow' (fp'' fo'':Int→Option Value) (hc:Chg [gb pid,qp,qo] w W)=>@eV w W m M O bp bo be fp fo fe gb GF ov hI hO hl pid p hp d FA qp qo gp' go' gp hP mI pA d' F' rl' pg' ow' fp'' fo'' hc);have qR:=hP.blk.lt;have qA:w.cell? ⟨gb pid,0,none⟩ = some (.pointer (some ⟨d,0,none⟩)):=by simpa [prc] using hP.blk.cell 0
 have fzb:=hP.blk.frozen;have q6:w.cell? ⟨b6,0,none⟩ = some (.pointer (some ⟨d',0,none⟩)):=by simpa using h6.cell 0
 have q2:w.cell? ⟨b2,0,none⟩ = some (.pointer (some ⟨gb pid,0,none⟩)):=by simpa using h2.cell 0
 have l6:=h6.lt;have l2:=h2.lt;have n2:b2≠gb pid:=Blk.ne_ h2 hP.blk (by decide);have n3:b3≠gb pid:=Blk.ne_ h3 hP.blk (by decide);have kP:Blk (w.setCell ⟨gb pid,0,none⟩ (.pointer (some ⟨d',0,none⟩))) (gb pid) 113 (prc d' qp qo p):=Blk.set_ hP.blk 0 (.pointer (some ⟨d',0,none⟩));have wH:Chg [gb pid] w (w.setCell ⟨gb pid,0,none⟩ (.pointer (some ⟨d',0,none⟩))):=(av [gb pid] w).setCell (p:=⟨gb pid,0,none⟩) (.inl (by simp)) _;have HB:=bk kP;have HC:=bk wH;have nA:∀k∈F',k≠gb pid:=fun k hk e=>hF k hk (hO k (.inr (.inr (.inr (.inr (.inl ⟨pid,p,hp,e ▸ mI _ (.inl rfl)⟩))))));have HA:=bk (show Ar.AMem (w.setCell ⟨gb pid,0,none⟩ (.pointer (some ⟨d',0,none⟩))) d' rl' F' from hA.chg wH (fun k hk=>by simpa using nA k hk));have nAp:∀k∈F',k≠qp∧k≠qo:=fun k hk=>⟨fun e=>hF k hk (hO k (.inr (.inr (.inr (.inr (.inl ⟨pid,p,hp,e ▸ mI _ (.inr (.inr (.inl rfl)))⟩)))))),fun e=>hF k hk (hO k (.inr (.inr (.inr (.inr (.inl ⟨pid,p,hp,e ▸ mI _ (.inr (.inr (.inr (.inl rfl))))⟩))))))⟩;have NAP:=bk nAp;have tY:=bk (show MapB (w.setCell ⟨gb pid,0,none⟩ (.pointer (some ⟨d',0,none⟩))) qp .i64 gp' from hP.mp.chg wH (by simp;exact fun e=>bj hP.blk hP.mp e.symm));have Fi:=bk (show MapB (w.setCell ⟨gb pid,0,none⟩ (.pointer (some ⟨d',0,none⟩))) qo .i64 go' from hP.mo.chg wH (by simp;exact fun e=>bj hP.blk hP.mo e.symm));have HK:=bk (show KB (w.setCell ⟨gb pid,0,none⟩ (.pointer (some ⟨d',0,none⟩))) b3 x v from aw h3 wH (by simpa using n3));have H2:=bk (show Blk (w.setCell ⟨gb pid,0,none⟩ (.pointer (some ⟨d',0,none⟩))) b2 103 #[.pointer (some ⟨gb pid,0,none⟩)] from h2.chg wH (by simpa using n2));have Ac:=bk (ai (show b2≠qp from bj h2 hP.mp) (ai (show b2≠qo from bj h2 hP.mo) (ai (show b3≠qp from bj h3 hP.mp) (show b3≠qo from bj h3 hP.mo))));have pR:=bk (ai (show gb pid≠qp from hP.blk.ne_map hP.mp) (ai (show gb pid≠qo from hP.blk.ne_map hP.mo) hP.ne));have HPH:=bk hP.hp;have uT:=bk hP.ho;have HS:=bk hS;have HX:=bk hx;have HF:=bk hF;have Df:=(ay HK.out).1;clear hI hO hl hp hP mI pA h6 h2 h3 hA hS hF hx kP wH nA nAp;obtain ⟨p2,qG⟩:∃p2,p2 = if x.k = 4 then { p with rl:=rl',pg:=fun q=>if inR x.g x.c q then none else p.pg q,ow:=fun q=>if inR x.g x.c q then none else p.ow q } else { p with rl:=rl' }:=⟨_,rfl⟩
 rw [← qG];have yV:=bk qG;clear qG;go_enter Tryz.func98,Tryz.ntmps98;go_upto_region 1 with (fail)
 generalize w.setCell ⟨gb pid,0,none⟩ (.pointer (some ⟨d',0,none⟩)) = W1 at *;clear qA fzb q6 q2;by_cases h4:x.k = 4
 case neg =>
  have e4:((x.k:Int) == 4) = false:=aj (by omega);have e4':¬ (x.k:Int) = 4:=by omega
  have H4:=bk h4;clear h4;go_wp2_with fail;refine bodyPost_ret (results_none rfl _ _ _) rfl ?_;rw [yV.out,ag H4.out];exact ⟨rfl,nD.out W1 p.pg p.ow gp' go' (HC.out.mono (fun y hy=>.inl (by simp at hy;simp [hy]))) HB.out HA.out HS.out HF.out tY.out Fi.out HPH.out uT.out (fun _ _ h=>h) (fun _ _ h=>h)⟩
 obtain ⟨g0,g1,c0,c1⟩:=HX.out h4;rw [ah h4] at yV;rw [h4] at Df;have hxc:=(ay HK.out).2.2.2.2.1;obtain ⟨cn,xH⟩:∃n:Nat,x.c = n:=⟨x.c.toNat,by omega⟩;rw [xH] at hxc;have En:(cn:Int)≤1024:=by omega
 have l3:=ay HK.out |>.2.2.2.2.2.2.2.2.2.2.2.2.1;have HG:=bk (ai g0 (ai g1 xH));clear h4 g0 g1 c0 c1 xH;go_upto_region 3 with (fail)
 clear Df hxc l3 l2 l6 qR;go_loopw [13] (fun i wr=>∃(k:Nat),k≤cn∧i = .int .i64 k∧Hid (Blk wr (gb pid) 113 (prc d' qp qo p))∧Hid (MapB wr qp .i64 fun q=>if inR x.g (k:Nat) q then none else gp' q)∧Hid (MapB wr qo .i64 fun q=>if inR x.g (k:Nat) q then none else go' q)∧Hid (Chg [qp,qo] W1 wr)) (fun i _=>cn - (intOf i).toNat)
 case atStart=>exact ⟨0,by omega,rfl,HB,bk (MapB.congr tY.out cW),bk (MapB.congr Fi.out cW),bk (av _ _)⟩
 case round =>
  obtain ⟨k,hk,rfl,hb,h1,h2,hc⟩:=hrel;have lM:=aw HK.out hc.out (by simp;exact ⟨Ac.out.2.2.1,Ac.out.2.2.2⟩);have GU:=aw H2.out hc.out (by simp;exact ⟨Ac.out.1,Ac.out.2.1⟩);by_cases nC:k < cn
  ·have q2:wr.cell? ⟨b2,0,none⟩ = some (.pointer (some ⟨gb pid,0,none⟩)):=(by simpa using GU.cell 0);have qp1:wr.cell? ⟨gb pid,1,none⟩ = some (.map (some qp)):=(by simpa [prc] using hb.out.cell 1);have qp2:wr.cell? ⟨gb pid,2,none⟩ = some (.map (some qo)):=(by simpa [prc] using hb.out.cell 2);have qg:=(ay lM).2.2.2.1;have lb:=hb.out.lt;have l2:=GU.lt;have l3:=lM.lt;have d1:decide ((k:Int) < (cn:Int)) = true:=ae (by omega);have sM:IntKind.i64.wrap (x.g+(k:Int)) = x.g+(k:Int):=(by rw [IntKind.wrap_i64];have:=HG.out;omega);have tT:IntKind.i64.wrap ((k:Int)+1) = (k:Int)+1:=(by rw [IntKind.wrap_i64];omega);have oT:=bk nC;clear nC hk;have Fh:=bk (show MapB wr.drew qp .i64 _ from h1.out);have HM2:=bk (show MapB wr.drew qo .i64 _ from h2.out);have HBd:=bk (show Blk wr.drew (gb pid) 113 (prc d' qp qo p) from hb.out);have HKd:=bk (show KB wr.drew b3 x v from lM);have H2d:=bk (show Blk wr.drew b2 103 #[.pointer (some ⟨gb pid,0,none⟩)] from GU);have Bo:=bk (show Chg [qp,qo] W1 wr.drew from hc.out.drew);clear hb h1 h2 hc lM GU;go_upto_region 5 with (fail)
   refine rgn9 [1,0,0,1,0,1,0,0,3] ?_;go_wp2_with (first|refine dy fun K U=>?_;refine pc _ _ rfl Tryz.underlying110 Tryz.underlying3 rfl rfl Fh.out ?_;intro W5 h5 kE;refine U _ _ ?_;clear U K|refine cdA fun K U=>?_|refine bn fun K U=>?_;go_simp|refine bq ?_);have rE:=bk h5;have BS:=bk (MapB.stay (MapB.chg HM2.out kE (show qo∉[qp] by simp;exact fun e=>pR.out.2.2 e.symm)) (av [] W5).drew);have oB:=bk (Blk.drew (aw HBd.out kE (show gb pid∉[qp] by simp;exact pR.out.1)));have xA:=bk (show KB W5.drew b3 x v from Blk.drew (aw HKd.out kE (show b3∉[qp] by simp;exact Ac.out.2.2.1)));have H25:=bk (Blk.drew (aw H2d.out kE (show b2∉[qp] by simp;exact Ac.out.1)));have kU:=bk (show Chg [qp,qo] W1 W5.drew from (Bo.out.trans kE (fun y hy=>.inl (by simp at hy;simp [hy]))).drew);clear h5 kE q2 qp1 qp2 qg lb l2 l3 Fh HM2 HBd HKd H2d Bo;have q2:W5.cell? ⟨b2,0,none⟩ = some (.pointer (some ⟨gb pid,0,none⟩)):=(by simpa using H25.out.cell 0);have qp1:W5.cell? ⟨gb pid,1,none⟩ = some (.map (some qp)):=(by simpa [prc] using oB.out.cell 1);have qp2:W5.cell? ⟨gb pid,2,none⟩ = some (.map (some qo)):=(by simpa [prc] using oB.out.cell 2);have qg:W5.cell? ⟨b3,3,none⟩ = some (.int .i64 x.g):=(ay xA.out).2.2.2.1;have lb:gb pid < W5.heap.size:=oB.out.lt;have l2:b2 < W5.heap.size:=H25.out.lt;have l3:b3 < W5.heap.size:=xA.out.lt;refine rgn9 [1,0,0,1,0,1,0,0,3] ?_;go_wp2_with (first|refine dy fun K U=>?_;refine pc _ _ rfl Tryz.underlying111 Tryz.underlying3 rfl rfl BS.out ?_;intro W6 h6 kF;refine U _ _ ?_;clear U K|refine cdA fun K U=>?_|refine bn fun K U=>?_;go_simp|refine bq ?_);go_roundw
   case rel=>exact ⟨k+1,by have:=oT.out;omega,by go_num,bk (oB.out.chg kF (by simp;exact pR.out.2.1)),bk ((MapB.congr (MapB.stay rE.out (av [] W5).drew) cV).chg kF (by simp;exact pR.out.2.2)),bk (MapB.congr h6 cV),bk (kU.out.trans kF (fun y hy=>.inl (by simp at hy;simp [hy])))⟩
   case measure=>have:=oT.out;simp [intOf];omega
  ·obtain rfl:k = cn:=(by omega);have HH:=bk (ai hb.out (ai h1.out (ai h2.out hc.out)));clear hb h1 h2 hc lM GU;go_wp2_with fail;go_end0;rw [yV.out];have xH:=HG.out.2.2;have mO:Chg [gb pid,qp,qo] w wr:=(HC.out.mono (fun y hy=>.inl (by simp at hy;simp [hy]))).trans HH.out.2.2.2 (fun y hy=>.inl (by simp at hy;rcases hy with rfl | rfl <;> simp));refine ⟨rfl,nD.out wr _ _ _ _ mO HH.out.1 (HA.out.chg HH.out.2.2.2 (fun k hk=>by simp;exact NAP.out k hk)) HS.out HF.out HH.out.2.1 HH.out.2.2.1 (fun n=>?_) (fun n=>?_) (fun n B e=>?_) (fun n q e=>?_)⟩
   ·rw [xH];by_cases hr:inR x.g (k:Nat) n = true
    ·rw [ah hr,ah hr];rfl
    ·rw [ag hr,ag hr];exact HPH.out n
   ·rw [xH];by_cases hr:inR x.g (k:Nat) n = true
    ·rw [ah hr,ah hr];rfl
    ·rw [ag hr,ag hr];exact uT.out n
   ·by_cases hr:inR x.g x.c n = true
    ·rw [ah hr] at e;cases e
    ·rwa [ag hr] at e
   ·by_cases hr:inR x.g x.c n = true
    ·rw [ah hr] at e;cases e
    ·rwa [ag hr] at e
section
variable {w w':World} {m:Nat} {M:Mo} {O:Nat→Prop} {X:List Nat} {bp bo be:Nat} {fp fo fe:Int→Option Value} {gb:Int→Nat} {GF:Int→Nat→Prop} {ov:Int→Value}
theorem MIn.stay (hI:MIn w m M bp bo be fp fo fe gb GF ov) (hc:Chg [] w w'):MIn w' m M bp bo be fp fo fe gb GF ov:=hI.cp (CP.of0 (F:=fun _=>False) hc) (fun _ _ h=>h)
theorem MIn.off (hI:MIn w m M bp bo be fp fo fe gb GF ov) (hO:∀k,FMo M m bp bo be GF ov k→O k) (hc:CP (fun k=>¬ O k) w w'):MIn w' m M bp bo be fp fo fe gb GF ov:=hI.cp hc (fun k hk hn=>hn (hO k hk))
theorem eU (hI:MIn w m M bp bo be fp fo fe gb GF ov) (hO:∀k,FMo M m bp bo be GF ov k→O k) (hl:∀k,O k→k < w.heap.size) {pid:Int} {p:Pr} (hp:M.pr pid = some p)
  {b6 b2 b3 d':Nat} {F':List Nat} {rl':List Ar.Rn} {x:Cl} {v:Value} (hc:Chg [] w w') (h6:Blk w' b6 109 #[.pointer (some ⟨d',0,none⟩)]) (h2:Blk w' b2 103 #[.pointer (some ⟨gb pid,0,none⟩)]) (h3:KB w' b3 x v)
  (hA:Ar.AMem w' d' rl' F') (hS:Ar.Sp rl') (hF:∀k∈F',w.heap.size≤k) (hn:w.heap.size≤b6∧w.heap.size≤b2∧w.heap.size≤b3) (hx:x.k = 4→0≤x.g∧x.g≤1024∧0≤x.c∧x.c≤1024) {p2:Pr}
  (qG:p2 = if x.k = 4 then { p with rl:=rl',pg:=fun q=>if inR x.g x.c q then none else p.pg q,ow:=fun q=>if inR x.g x.c q then none else p.ow q } else { p with rl:=rl' }) :
  Eff w w' m O X (.func (.func 98) #[] #[.pointer (some ⟨b6,0,none⟩),.pointer (some ⟨b2,0,none⟩),.pointer (some ⟨b3,0,none⟩)]) (some { M with pr:=upd M.pr pid (some p2) }):=by
 refine ⟨_,_,rfl,pn Tryz.func98 (by kernel_rfl) (by kernel_rfl),fun G W hG hW=>?_⟩;have mO:=hG.cp hc hW;refine (iY (hI.off hO mO) hO (fun k hk=>al (hl k hk) mO.size) hp (h6.chg hW (hG.new hn.1)) (h2.chg hW (hG.new hn.2.1)) (show KB W b3 x v from aw h3 hW (hG.new hn.2.2)) (hA.chg hW (fun k hk=>hG.new (hF k hk))) hS (fun k hk rU=>by have:=hF k hk;have:=hl k rU;omega) hx).mono ?_;rintro e W' ⟨rfl,k1,O',k2,k3⟩;rw [← qG] at k2;exact ⟨rfl,k1.or,O',k2,fun k hk=>(k3 k hk).imp id (hF k)⟩
end
variable {X:List Nat}
theorem tc
  (hI:MIn w m M bp bo be fp fo fe gb GF ov) (hO:∀k,FMo M m bp bo be GF ov k→O k) (hl:∀k,O k→k < w.heap.size) {pid:Int} {p:Pr} (hp:M.pr pid = some p)
  {x:Cl} {v:Value} (hv:v.oneCell' = true) (hk:x.k = 3∨x.k = 4∨x.k = 5) (hx:x.k = 4→0≤x.g∧x.g≤1024∧0≤x.c∧x.c≤1024) :
  Calls Tryz.prog 68 #[.pointer (some ⟨gb pid,0,none⟩),.agg (clc x v)] w fun e w'=>AnsR w w' m O X (bw (db p x).1,some { M with pr:=upd M.pr pid (some (db p x).2) }) e∧Chg [] w w':=by
 obtain ⟨d,FA,qp,qo,gp',go',gp,hP,mI,pA⟩:=hI.pr pid p hp;obtain ⟨W2,kJ⟩:∃W2,W2 = ((w.alloc (.cells #[.pointer (some ⟨gb pid,0,none⟩)] 103)).alloc (.cells (clc x v) 47)).alloc (.cells (rsc zRs zV) 40):=⟨_,rfl⟩;have kI:Chg [] w W2:=by rw [kJ];exact (((av [] w).alloc _).alloc _).alloc _
 have lV:Blk W2 w.heap.size 103 #[.pointer (some ⟨gb pid,0,none⟩)]:=by rw [kJ];exact ((ax w _ _).alloc _).alloc _
 have lD:KB W2 (w.heap.size+1) x v:=by
  have:=ax (w.alloc (.cells #[.pointer (some ⟨gb pid,0,none⟩)] 103)) 47 (clc x v);rw [af] at this;rw [kJ];exact this.alloc _
 have lZ:XB W2 (w.heap.size+1+1) zRs zV:=by
  have:=ax ((w.alloc (.cells #[.pointer (some ⟨gb pid,0,none⟩)] 103)).alloc (.cells (clc x v) 47)) 40 (rsc zRs zV);rw [af,af] at this;rw [kJ];exact this
 obtain ⟨b2,e2⟩:∃b,b = w.heap.size:=⟨_,rfl⟩;obtain ⟨b3,e3⟩:∃b,b = w.heap.size+1:=⟨_,rfl⟩;obtain ⟨b4,e4⟩:∃b,b = w.heap.size+1+1:=⟨_,rfl⟩;rw [← e4] at lZ;rw [← e3] at lD;rw [← e2] at lV;have HE:=bk (ai e2 (ai e3 e4));have yV:=bk (show PIn W2 (gb pid) p d FA qp qo gp' go' gp from hP.cp (CP.of0 (F:=fun _=>False) kI) (fun _ _ h=>h));have sO:=bk (fun (w':World) (b6 b2 b3 d':Nat) (F':List Nat) (rl':List Ar.Rn) (hc:Chg [] w w') (h6:Blk w' b6 109 #[.pointer (some ⟨d',0,none⟩)]) (h2:Blk w' b2 103 #[.pointer (some ⟨gb pid,0,none⟩)]) (h3:KB w' b3 x v) (hA:Ar.AMem w' d' rl' F') (hS:Ar.Sp rl') (hF:∀k∈F',w.heap.size≤k) (hn:w.heap.size≤b6∧w.heap.size≤b2∧w.heap.size≤b3) (p2:Pr)=>eU (X:=X) hI hO hl hp hc h6 h2 h3 hA hS hF hn hx (p2:=p2));have mS:=bk hP.sp;have wY:=bk (fun W (hc:Chg [] W2 W)=>Ar.copy_at (yV.out.ar.stay hc) (by have:=hP.sp.len;omega));have oI:=bk lV;have lI:=bk lD;have lG:=bk lZ;have lE:=bk kI;have kW:=bk kJ;have CO:=bk (ai lV.lt (ai (ay lD).2.2.2.2.2.2.2.2.2.2.2.2.1 (XB.cells lZ).2.2.2.1));have q2:W2.cell? ⟨b2,0,none⟩ = some (.pointer (some ⟨gb pid,0,none⟩)):=by simpa using lV.cell 0
 have qA:W2.cell? ⟨gb pid,0,none⟩ = some (.pointer (some ⟨d,0,none⟩)):=by simpa [prc] using yV.out.blk.cell 0
 have l2:=lV.lt;have lb:=yV.out.blk.lt;clear hI hO hl hp hP mI pA lV lD lZ kI kJ e2 e3 e4 hx;go_enter Tryz.func68,Tryz.ntmps68;go_upto_region 1 with (first|refine cc rfl _ rfl rfl ?_;try simp only [af]|refine ck rfl rfl ?_;try simp only [af];try rw [← kW.out])
 rw [← HE.out.2.2,← HE.out.2.1,← HE.out.1];go_wp2_with fail;refine (wY.out W2 (av _ _)).mono ?_;rintro e W3 ⟨d',F',rfl,hA3,hF3,kM⟩;have HA3:=bk hA3;have kL:=bk (lE.out.stay kM);have hF2:=hF3;have Fb:=bk (show ∀k∈F',w.heap.size≤k from fun k hk=>au lE.out.size (hF3 k hk));have FY:=bk (oI.out.chg kM ab);have FZ:=bk (bh lI.out kM);have Ga:=bk (bf lG.out kM);clear hA3 hF3 kM oI lI lG lE q2 qA l2 lb wY;have HF2:=bk hF2;have oO:=bk (fun e W=>li e W);go_upto_region 3 with (fail)
 have mF:=ax W3 109 #[.pointer (some ⟨d',0,none⟩)];have kF:Chg [] W3 (W3.alloc (.cells #[.pointer (some ⟨d',0,none⟩)] 109)):=(av [] W3).alloc _;obtain ⟨b6,e6⟩:∃b,b = W3.heap.size:=⟨_,rfl⟩;have h6n:∀k∈F',k < b6:=fun k hk=>by rw [e6];exact HA3.out.lt k hk
 have HE6:=bk (show w.heap.size≤b6 by rw [e6];exact kL.out.size);rw [← e6] at mF ⊢;clear e6;generalize W3.alloc (.cells #[.pointer (some ⟨d',0,none⟩)] 109) = W4 at mF kF ⊢;have HA4:=bk (HA3.out.stay kF);have lA:=bk (kL.out.stay kF);have Dm:=bk (FY.out.chg kF ab);have BJ:=bk (bh FZ.out kF);have xT:=bk (bf Ga.out kF);have Dn:=bk mF;have nb2:b2∉F':=fun h=>by have:=HF2.out b2 h;have:=CO.out;omega
 have nb3:b3∉F':=fun h=>by have:=HF2.out b3 h;have:=CO.out;omega
 have nb4:b4∉F':=fun h=>by have:=HF2.out b4 h;have:=CO.out;omega
 have nb6:b6∉F':=fun h=>by have:=h6n b6 h;omega
 have pR:=bk (ai nb2 (ai nb3 (ai nb4 nb6)));have q6:W4.cell? ⟨b6,0,none⟩ = some (.pointer (some ⟨d',0,none⟩)):=by simpa using mF.cell 0
 have l6:=mF.lt;obtain ⟨c0,-,-,c3,c4,-,-,c7,-,-,-,-,l3,-⟩:=ay BJ.out;clear mF kF h6n nb2 nb3 nb4 nb6 HA3 kL FY FZ Ga;rcases hk with hk | hk | hk
 ·have pQ:=bk (show db p x = (Ar.mapE p.rl x.g x.c x.r,_) by unfold db;rw [ah hk]);have HK:=bk hk;rw [hk] at c0;clear hk;go_wp2_with fail;refine (Ar.map_at HA4.out mS.out x.g x.c (x.r:Int)).mono ?_;rintro e W5 ⟨rfl,⟨F'',hA5,qH⟩,kE⟩;have FX:=bk hA5;have Gl:=bk (show ∀k∈F'',w.heap.size≤k from fun k hk=>(qH k hk).elim (Fb.out k) (fun h=>au lA.out.size h));have kU:=bk (show Chg [] w W5 from lA.out.trans kE (fun k hk=>.inr (Fb.out k hk)));have DG:=bk (show ∀k∈F'',k≠b4 from fun k hk e=>(qH k hk).elim (fun h=>pR.out.2.2.1 (e ▸ h)) (fun h=>by have:=(XB.cells xT.out).2.2.2.1;omega));have zK:=bk (Dm.out.chg kE pR.out.1);have zL:=bk (show KB W5 b3 x v from aw BJ.out kE pR.out.2.1);have uI:=bk (show XB W5 b4 zRs zV from aw xT.out kE pR.out.2.2.1);have rL:=bk (Dn.out.chg kE pR.out.2.2.2);clear hA5 qH kE c0 c3 c4 c7 l3 q6 l6;go_wp2_with fail;refine (oO.out _ _).mono ?_;rintro e W6 ⟨rfl,kF⟩;have zM:=bk (bf uI.out kF);have mA:=bk kF;clear kF;generalize hEE:Ar.mapE p.rl x.g x.c x.r = EE at *;go_wp2_with (first|refine bu (b:=b4) (y:=bw EE) (u:=zV) rfl _ _ rfl rfl rfl rfl zM.out ?_;intro W7 h7 kN);have nJ:Chg [b4] W5 W7:=(mA.out.up [b4]).and_ kN;have mO:Chg [] w W7:=(kU.out.stay mA.out).trans kN (fun y hy=>.inr (by obtain rfl:=aa hy;have:=HE.out;omega));have he:=HE.out;have h6:=rL.out;refine bodyPost_ret (v:=.tuple #[.agg (rsc (bw EE) zV),.func (.func 98) #[] #[.pointer (some ⟨b6,0,none⟩),.pointer (some ⟨b2,0,none⟩),.pointer (some ⟨b3,0,none⟩)]]) (ci (p:=4) (q:=5) rfl _ rfl h7) rfl ⟨?_,mO⟩;rw [pQ.out];have n4:b6≠b4:=Blk.ne_ rL.out uI.out (by decide);have nA:=DG.out;exact ⟨none,0,0,_,rfl,RE.nil _ _ _ _ _,(fun _ h=>(cw h).elim),sO.out W7 b6 b2 b3 d' F'' _ mO (rL.out.chg nJ (by simpa using n4)) (zK.out.chg nJ (by simp;omega)) (aw zL.out nJ (by simp;omega)) (FX.out.chg nJ (fun k hk=>by simpa using nA k hk)) (mS.out.map x.g x.c (x.r:Int)) Gl.out ⟨HE6.out,by omega,by omega⟩ _ (by rw [ag (by rw [HK.out];decide)])⟩
 ·have pQ:=bk (show db p x = (Ar.unE p.rl x.g x.c,_) by unfold db;rw [ag (by omega),ah hk]);have HK:=bk hk;rw [hk] at c0;clear hk;go_wp2_with fail;refine (Ar.un_at HA4.out mS.out x.g x.c).mono ?_;rintro e W5 ⟨rfl,⟨F'',hA5,qH⟩,kE⟩;have FX:=bk hA5;have Gl:=bk (show ∀k∈F'',w.heap.size≤k from fun k hk=>(qH k hk).elim (Fb.out k) (fun h=>au lA.out.size h));have kU:=bk (show Chg [] w W5 from lA.out.trans kE (fun k hk=>.inr (Fb.out k hk)));have DG:=bk (show ∀k∈F'',k≠b4 from fun k hk e=>(qH k hk).elim (fun h=>pR.out.2.2.1 (e ▸ h)) (fun h=>by have:=(XB.cells xT.out).2.2.2.1;omega));have zK:=bk (Dm.out.chg kE pR.out.1);have zL:=bk (show KB W5 b3 x v from aw BJ.out kE pR.out.2.1);have uI:=bk (show XB W5 b4 zRs zV from aw xT.out kE pR.out.2.2.1);have rL:=bk (Dn.out.chg kE pR.out.2.2.2);clear hA5 qH kE c0 c3 c4 c7 l3 q6 l6;go_wp2_with fail;refine (oO.out _ _).mono ?_;rintro e W6 ⟨rfl,kF⟩;have zM:=bk (bf uI.out kF);have mA:=bk kF;clear kF;generalize hEE:Ar.unE p.rl x.g x.c = EE at *;go_wp2_with (first|refine bu (b:=b4) (y:=bw EE) (u:=zV) rfl _ _ rfl rfl rfl rfl zM.out ?_;intro W7 h7 kN);have nJ:Chg [b4] W5 W7:=(mA.out.up [b4]).and_ kN;have mO:Chg [] w W7:=(kU.out.stay mA.out).trans kN (fun y hy=>.inr (by obtain rfl:=aa hy;have:=HE.out;omega));have he:=HE.out;have h6:=rL.out;refine bodyPost_ret (v:=.tuple #[.agg (rsc (bw EE) zV),.func (.func 98) #[] #[.pointer (some ⟨b6,0,none⟩),.pointer (some ⟨b2,0,none⟩),.pointer (some ⟨b3,0,none⟩)]]) (ci (p:=4) (q:=5) rfl _ rfl h7) rfl ⟨?_,mO⟩;rw [pQ.out];have n4:b6≠b4:=Blk.ne_ rL.out uI.out (by decide);have nA:=DG.out;exact ⟨none,0,0,_,rfl,RE.nil _ _ _ _ _,(fun _ h=>(cw h).elim),sO.out W7 b6 b2 b3 d' F'' _ mO (rL.out.chg nJ (by simpa using n4)) (zK.out.chg nJ (by simp;omega)) (aw zL.out nJ (by simp;omega)) (FX.out.chg nJ (fun k hk=>by simpa using nA k hk)) (mS.out.un x.g x.c) Gl.out ⟨HE6.out,by omega,by omega⟩ _ (by rw [ah HK.out])⟩
 ·have pQ:=bk (show db p x = (Ar.prE p.rl x.g x.c x.r,_) by unfold db;rw [ag (by omega),ag (by omega)]);have HK:=bk hk;rw [hk] at c0;clear hk;go_wp2_with fail;refine (Ar.pr_at HA4.out mS.out x.g x.c (x.r:Int)).mono ?_;rintro e W5 ⟨rfl,⟨F'',hA5,qH⟩,kE⟩;have FX:=bk hA5;have Gl:=bk (show ∀k∈F'',w.heap.size≤k from fun k hk=>(qH k hk).elim (Fb.out k) (fun h=>au lA.out.size h));have kU:=bk (show Chg [] w W5 from lA.out.trans kE (fun k hk=>.inr (Fb.out k hk)));have DG:=bk (show ∀k∈F'',k≠b4 from fun k hk e=>(qH k hk).elim (fun h=>pR.out.2.2.1 (e ▸ h)) (fun h=>by have:=(XB.cells xT.out).2.2.2.1;omega));have zK:=bk (Dm.out.chg kE pR.out.1);have zL:=bk (show KB W5 b3 x v from aw BJ.out kE pR.out.2.1);have uI:=bk (show XB W5 b4 zRs zV from aw xT.out kE pR.out.2.2.1);have rL:=bk (Dn.out.chg kE pR.out.2.2.2);clear hA5 qH kE c0 c3 c4 c7 l3 q6 l6;go_wp2_with fail;refine (oO.out _ _).mono ?_;rintro e W6 ⟨rfl,kF⟩;have zM:=bk (bf uI.out kF);have mA:=bk kF;clear kF;generalize hEE:Ar.prE p.rl x.g x.c x.r = EE at *;go_wp2_with (first|refine bu (b:=b4) (y:=bw EE) (u:=zV) rfl _ _ rfl rfl rfl rfl zM.out ?_;intro W7 h7 kN);have nJ:Chg [b4] W5 W7:=(mA.out.up [b4]).and_ kN;have mO:Chg [] w W7:=(kU.out.stay mA.out).trans kN (fun y hy=>.inr (by obtain rfl:=aa hy;have:=HE.out;omega));have he:=HE.out;have h6:=rL.out;refine bodyPost_ret (v:=.tuple #[.agg (rsc (bw EE) zV),.func (.func 98) #[] #[.pointer (some ⟨b6,0,none⟩),.pointer (some ⟨b2,0,none⟩),.pointer (some ⟨b3,0,none⟩)]]) (ci (p:=4) (q:=5) rfl _ rfl h7) rfl ⟨?_,mO⟩;rw [pQ.out];have n4:b6≠b4:=Blk.ne_ rL.out uI.out (by decide);have nA:=DG.out;exact ⟨none,0,0,_,rfl,RE.nil _ _ _ _ _,(fun _ h=>(cw h).elim),sO.out W7 b6 b2 b3 d' F'' _ mO (rL.out.chg nJ (by simpa using n4)) (zK.out.chg nJ (by simp;omega)) (aw zL.out nJ (by simp;omega)) (FX.out.chg nJ (fun k hk=>by simpa using nA k hk)) (mS.out.pr x.g x.c (x.r:Int)) Gl.out ⟨HE6.out,by omega,by omega⟩ _ (by rw [ag (by rw [HK.out];decide)])⟩
section
variable {ops:Array Oper} {P:Program} {S:World→Prop} {Q:Exit→Act→World→Prop} {o:Oper} {rest:List Oper} {ks:List Nat} {gs:List (Option (Nat × Bool))} {a:Act} {w:World}
theorem sk (t:TypeId) (x y:Operand) (c:Bool) (ho:o.op = .lookup t x y c) {u z v:Value} (hx:a.eval x = u) (hy:a.eval y = z) (hv:∀w',S w'→(Instr.lookup t u z c).run P w' = .ok v w') (hS:S w) (h:wpG P S Q rest ks gs (a.put o.dst v) w) :
  wpG P S Q (o :: rest) (5 :: ks) (none :: gs) a w:=by
 refine yi hS v (fun w' kK=>?_) h;unfold StillAt execOp;simp [ho,hx,hy,hv w' kK,Sem.run_bind]
end
variable {v:Value} {a:Act} {gs:List (Option (Nat × Bool))} {rest:List Oper} {o:Oper} {Q:Exit→Act→World→Prop} {S:World→Prop}
theorem jp {ks:List Nat} {r:Rs} (parts:Array (Nat × Operand)) (ho:o.op = .build 40 parts)
  {l:List (Nat × Value)} (hb:BR l r v) (hl:(parts.map fun (i,x)=>(i,a.eval x)).toList = l) (h:wpG Tryz.prog S Q rest ks gs (a.put o.dst (.agg (rsc r v))) w):wpG Tryz.prog S Q (o :: rest) (0 :: ks) (none :: gs) a w :=
 bn (fun K U=>⟨_,fun w'=>by
  unfold execOp
  simp only [ho,Sem.run_bind,run_build w' 40 _ (rsc r v) (by rw [hl];exact hb.h),Sem.run_pure,Result.andThen_ok],U _ _ h⟩)
variable {K:Act→World→Prop}
theorem ja {x y:Rs} {u:Value} (z t:Operand) (ho:o.op = .store 40 z t) (hx:a.eval z = .pointer (some ⟨b,0,none⟩)) (hy:a.eval t = .agg (rsc y u)) (hu:u.oneCell' = true) (h0:XB w b x v)
  (h:∀w',XB w' b y u→Chg [b] w w'→K (a.put o.dst undef) w'):o.wp Tryz.prog a w K Q :=
 wp_store_row 40 z t ho b _ hx hy 40 _ h0 dq rfl (iM y hu) (h _ (setRow_heap w b _ _ _ _ h0) ((av [b] w).setRow (.inl (by simp)) _))
theorem gN:∀w,(zeroValue 115).run Tryz.prog w = .ok (.pointer none) w:=by
 have h:(Tryz.prog.info? 115).map (fun i=>(i.zero,i.size)) = some (some (.pointer none),1):=by kernel_rfl
 exact (zero_of_info h).1
theorem dL (w:World):(Instr.alloc 138 true (.tuple #[])).run Tryz.prog w = .ok (.pointer (some ⟨w.heap.size,0,none⟩)) (w.alloc (.cells (pgc zeroPg) 138)):=by
 have e:Tryz.zeroCells138 = pgc zeroPg:=by kernel_rfl
 simp [Instr.alloc,Sem.run_bind,newVar,newRow,run_newObj_alloc,Value.cells,e]
theorem rn {ops:Array Oper} (hg:o.guard = none) (ho:o.op = .alloc 138)
  (h:wpList Tryz.prog ops Q rest (a.put o.dst (.pointer (some ⟨w.heap.size,0,none⟩))) (w.alloc (.cells (pgc zeroPg) 138))):wpList Tryz.prog ops Q (o :: rest) a w :=
 Great.wpList_runTo hg _ rfl _ _ (by unfold execOp;simp only [ho,Sem.run_bind,dL,Sem.run_pure,Result.andThen_ok]) h
theorem gR:zeroPg.length = 256:=by unfold zeroPg;rw [List.length_replicate]
theorem PgB.new (w:World):PgB (w.alloc (.cells (pgc zeroPg) 138)) w.heap.size zeroPg:=⟨ax w _ _,gR,fun x hx=>by unfold zeroPg at hx;rw [List.mem_replicate] at hx;omega⟩
theorem nv:∀L:List Nat,fc ucl L = L.map fun (x:Nat)=>Value.int .u8 (x:Int)
 | []=>rfl
 | x :: L=>by
  have ih:=nv L
  unfold fc at ih ⊢
  rw [List.flatMap_cons,ih]
  rfl
variable {l:List Nat}
theorem PgB.piece (h:PgB w b l) {at_ n c:Nat} (hn:at_+n≤256) (hc:n≤c):RB w (.slice (some ⟨b,at_,none⟩) n c) ((l.drop at_).take n):=by
 have hl:((l.drop at_).take n).length = n:=by rw [List.length_take,List.length_drop,h.len];omega
 refine ⟨by rw [fz gk],_,c,by rw [hl],by rw [hl];exact hc,fun hp=>⟨b,at_,rfl,fun j u hu=>?_⟩⟩;rw [nv,List.getElem?_map,List.getElem?_take] at hu;by_cases hj:j < n
 ·rw [ah hj,List.getElem?_drop] at hu;rw [h.blk.cell];unfold pgc;rw [List.getElem?_toArray,List.getElem?_map];exact hu
 ·rw [ag hj] at hu;cases hu
theorem size5:∀w,(sizeOf 5).run Tryz.prog w = .ok 1 w:=fun w=>by
 have h:(Tryz.prog.info? 5).map (·.size) = some 1:=by kernel_rfl
 cases hq:Tryz.prog.info? 5 with
 | none=>rw [hq] at h;cases h
 | some i =>
  have hi:i.size = 1:=by rw [hq] at h;simpa using h
  simp [sizeOf,typeInfo,hq,hi]
theorem vw {pb an sn:Nat} (h:an+sn≤256) (h1:1≤sn) (W:World) :
  (Instr.sliceAt 138 (.pointer (some ⟨pb,0,none⟩)) (some (.int .i64 (an:Int))) (some (.int .i64 ((an:Int)+(sn:Int)))) none).run Tryz.prog W = .ok (.slice (some ⟨pb,an,none⟩) sn (256 - an)) W:=by
 have e1:((an:Int)+(sn:Int)).toNat = an+sn:=by omega
 have e2:(0:Int)≤(an:Int)+(sn:Int):=by omega
 have e3:(an:Int)+(sn:Int)≤256:=by omega
 have e4:¬ 256 = an:=by omega
 have e5:(0:Int)≤(an:Int):=by omega
 have e6:(an:Int)≤(an:Int)+(sn:Int):=by omega
 have e7:an+sn - an = sn:=by omega
 simp [Instr.sliceAt,run_underlying Tryz.underlying138,Instr.sureAddr,Instr.sliceBounds,Instr.sliceBound,asIntOf,e1,e2,e3,e4,e5,e6,e7,size5,Addr.add_mid]
theorem fT {pb an:Nat} (h:an < 256) (W:World) :
  (Instr.sliceAt 138 (.pointer (some ⟨pb,0,none⟩)) (some (.int .i64 (an:Int))) none none).run Tryz.prog W = .ok (.slice (some ⟨pb,an,none⟩) (256 - an) (256 - an)) W:=by
 have e3:(an:Int)≤256:=by omega
 have e4:¬ 256 = an:=by omega
 have e5:(0:Int)≤(an:Int):=by omega
 have e6:¬ 256 < an:=by omega
 simp [Instr.sliceAt,run_underlying Tryz.underlying138,Instr.sureAddr,Instr.sliceBounds,Instr.sliceBound,asIntOf,e3,e4,e5,e6,size5,Addr.add_mid]
theorem load_any
  (hI:MIn w m M bp bo be fp fo fe gb GF ov) (hO:∀k,FMo M m bp bo be GF ov k→O k) {pid:Int} {p:Pr} (hp:M.pr pid = some p)
  {x:Cl} {v:Value} (hk:x.k = 8) (hx:0≤x.a∧x.a < 262144∧1≤x.s∧x.a % 256+x.s≤256) :
  Calls Tryz.prog 69 #[.pointer (some ⟨gb pid,0,none⟩),.agg (clc x v)] w fun e w'=>AnsR w w' m O X ((dt p x).1,none) e∧Chg [] w w':=by
 obtain ⟨d,FA,qp,qo,gp',go',gp,hP,mI,pA⟩:=hI.pr pid p hp;obtain ⟨W2,kJ⟩:∃W2,W2 = ((w.alloc (.cells #[.pointer (some ⟨gb pid,0,none⟩)] 103)).alloc (.cells (clc x v) 47)).alloc (.cells (rsc zRs zV) 40):=⟨_,rfl⟩;have kI:Chg [] w W2:=by rw [kJ];exact (((av [] w).alloc _).alloc _).alloc _
 have lV:Blk W2 w.heap.size 103 #[.pointer (some ⟨gb pid,0,none⟩)]:=by rw [kJ];exact ((ax w _ _).alloc _).alloc _
 have lD:KB W2 (w.heap.size+1) x v:=by
  have:=ax (w.alloc (.cells #[.pointer (some ⟨gb pid,0,none⟩)] 103)) 47 (clc x v);rw [af] at this;rw [kJ];exact this.alloc _
 have lZ:XB W2 (w.heap.size+1+1) zRs zV:=by
  have:=ax ((w.alloc (.cells #[.pointer (some ⟨gb pid,0,none⟩)] 103)).alloc (.cells (clc x v) 47)) 40 (rsc zRs zV);rw [af,af] at this;rw [kJ];exact this
 obtain ⟨b2,e2⟩:∃b,b = w.heap.size:=⟨_,rfl⟩;obtain ⟨b3,e3⟩:∃b,b = w.heap.size+1:=⟨_,rfl⟩;obtain ⟨b4,e4⟩:∃b,b = w.heap.size+1+1:=⟨_,rfl⟩;rw [← e4] at lZ;rw [← e3] at lD;rw [← e2] at lV;have HE:=bk (ai e2 (ai e3 e4));have HP:=bk (fun W (h:Chg [] W2 W)=>(show PIn W (gb pid) p d FA qp qo gp' go' gp from hP.cp (CP.of0 (F:=fun _=>False) (kI.stay h)) (fun _ _ h=>h)));have oI:=bk (fun W (h:Chg [] W2 W)=>lV.chg h ab);have lI:=bk (fun W (h:Chg [] W2 W)=>bh lD h);have lG:=bk lZ;have lE:=bk kI;have kW:=bk kJ;obtain ⟨pg,sI⟩:∃z:Int,z = x.a / 256:=⟨_,rfl⟩;obtain ⟨an,qP⟩:∃z:Nat,(z:Int) = x.a % 256:=⟨(x.a % 256).toNat,by omega⟩;obtain ⟨sn,sA⟩:∃z:Nat,(z:Int) = x.s:=⟨x.s.toNat,by omega⟩;have HB:=bk (show an+sn≤256 by omega);have HS1:=bk (show 1≤sn by omega);have t1:(x.a % 256).toNat = an:=by omega
 have t2:x.s.toNat = sn:=by omega
 have hsn0:sn≤256:=by omega
 have han0:an≤256:=by omega
 have rJ:wrap64 (x.a.tdiv 256) = pg:=by rw [sI,Int.tdiv_eq_ediv_of_nonneg hx.1];unfold wrap64;omega
 have mV:wrap64 (x.a.tmod 256) = (an:Int):=by clear rJ;rw [qP,Int.tmod_eq_emod_of_nonneg hx.1];unfold wrap64;omega
 have Dd:x.a.tmod 256 = (an:Int):=by clear rJ mV;rw [qP,Int.tmod_eq_emod_of_nonneg hx.1]
 have CE:wrap64 ((an:Int)+(sn:Int)) = (an:Int)+(sn:Int):=by clear rJ mV;unfold wrap64;omega
 have Bm:=bk (show (dt p x).1 = (if Ar.rt p.rl pg = 0 then bw 7 else if Ar.rt p.rl pg % 2 = 0 then bw 190 else ⟨0,0,(((p.pg pg).getD zeroPg).drop an).take sn⟩) by
  unfold dt
  simp only [hk,if_true,← sI]
  rw [t1,t2]
  split
  ·rfl
  ·split <;> rfl)
 have HK:=bk hk;have uT:=bk (show ∀pb,(∃B,p.pg pg = some B∧pb = gp pg)→O pb from fun pb ⟨B,h2,h3⟩=>h3 ▸ hO _ (.inr (.inr (.inr (.inr (.inl ⟨pid,p,hp,mI _ (.inr (.inr (.inr (.inr ⟨pg,B,h2,rfl⟩))))⟩))))));obtain ⟨B',yD⟩:∃B,B = (p.pg pg).getD zeroPg:=⟨_,rfl⟩;rw [← yD] at Bm;obtain ⟨pa,th,AW⟩:∃(pa:Option Addr) (th:Bool),(th = true∧pa = some ⟨gp pg,0,none⟩∧p.pg pg = some B')∨(th = false∧pa = none∧p.pg pg = none∧B' = zeroPg):=by
  cases h:p.pg pg with
  | some B=>exact ⟨_,true,.inl ⟨rfl,rfl,by rw [yD,h];rfl⟩⟩
  | none=>exact ⟨_,false,.inr ⟨rfl,rfl,rfl,by rw [yD,h];rfl⟩⟩
 have pF:=bk AW;have vJ:=bk (show ∀W,Chg [] W2 W→(Instr.lookup 110 (.map (some qp)) (.int .i64 pg) true).run Tryz.prog W = .ok (.tuple #[.pointer pa,.bool th]) W from fun W h=>by
  rcases AW with ⟨rfl,rfl,hb⟩ | ⟨rfl,rfl,hb,-⟩
  ·exact fh Tryz.underlying110 Tryz.underlying3 (HP.out W h).mp (by rw [(HP.out W h).hp,hb];rfl) true
  ·exact fg Tryz.underlying110 Tryz.underlying3 (HP.out W h).mp (by rw [(HP.out W h).hp,hb];rfl) (gN W) true)
 have yX:=bk (fun W (h:Chg [] W2 W)=>Ar.rights_at (HP.out W h).ar hP.sp pg);clear hI hO hp hP mI pA lV lD lZ kI kJ e2 e3 e4 hx AW yD sI qP hk t1 t2;obtain ⟨c0,-,-,-,-,c5,c6,-,-,-,-,-,l3,-⟩:=ay (lI.out W2 (av _ _));clear c0 c6;go_enter Tryz.func69,Tryz.ntmps69;go_upto_region 1 with (first|refine cc rfl _ rfl rfl ?_;try simp only [af]|refine ck rfl rfl ?_;try simp only [af];try rw [← kW.out])
 rw [← HE.out.2.2,← HE.out.2.1,← HE.out.1];go_cut [6,7] from 13 to 18 (fun z6 z7 W=>∃b6 b7,z6 = .pointer (some ⟨b6,0,none⟩)∧z7 = .pointer (some ⟨b7,0,none⟩)∧Blk W b6 3 #[.int .i64 pg]∧Blk W b7 3 #[.int .i64 (an:Nat)]∧Chg [] W2 W∧W2.heap.size≤b6∧W2.heap.size≤b7)
 case first =>
  refine mc [0,5,0,0,5,0,6,6,6,3] [none,none,none,none,none,none,none,none,none,none] [[0,1,2,3,4,5,6,7,8,9],[0,1,2,3,4,5,7,6,8,9]] (fun W=>Chg [] W2 W) (by kernel_rfl) (by kernel_rfl) (by kernel_rfl) (by kernel_rfl) (fun L9 qO=>?_);have hS:Chg [] W2 W2.drew:=(av [] W2).drew;generalize W2.drew = W0 at hS ⊢;simp only [List.mem_cons,List.mem_nil_iff,or_false] at qO;rcases qO with rfl | rfl
  ·simp only [fv,List.filterMap_cons,List.filterMap_nil,List.getElem?_cons_succ,List.getElem?_cons_zero];go_wp2_with (first|refine ca 3 _ rfl rfl (fun w' kK=>dg Tryz.underlying3 (ay (lI.out w' kK)).2.2.2.2.2.1) hS ?_|refine cdA fun K U=>?_|refine bn fun K U=>?_;go_simp|refine bq ?_);(refine cd hS fun K U=>?_);go_simp;refine U _ _ (hS.alloc _) ?_;clear U K;(refine cd (hS.alloc _) fun K U=>?_);go_simp;refine U _ _ ((hS.alloc _).alloc _) ?_;clear U K;go_wp2_with (first|refine cdA fun K U=>?_|refine bn fun K U=>?_;go_simp|refine bq ?_);(refine cd ((hS.alloc _).alloc _) fun K U=>?_);go_simp;refine U _ _ ((hS.alloc _).alloc _) ?_;clear U K;go_wp2_with (first|refine cdA fun K U=>?_|refine bn fun K U=>?_;go_simp|refine bq ?_);go_meet
   case rel=>exact ⟨_,_,rfl,rfl,((ax W0 3 #[.int .i64 pg]).alloc _),(by have h:=ax (W0.alloc (.cells #[.int .i64 pg] 3)) 3 #[.int .i64 (an:Nat)];rwa [af] at h),(hS.alloc _).alloc _,hS.size,Nat.le_succ_of_le hS.size⟩
  ·simp only [fv,List.filterMap_cons,List.filterMap_nil,List.getElem?_cons_succ,List.getElem?_cons_zero];go_wp2_with (first|refine ca 3 _ rfl rfl (fun w' kK=>dg Tryz.underlying3 (ay (lI.out w' kK)).2.2.2.2.2.1) hS ?_|refine cdA fun K U=>?_|refine bn fun K U=>?_;go_simp|refine bq ?_);(refine cd hS fun K U=>?_);go_simp;refine U _ _ (hS.alloc _) ?_;clear U K;(refine cd (hS.alloc _) fun K U=>?_);go_simp;refine U _ _ ((hS.alloc _).alloc _) ?_;clear U K;go_wp2_with (first|refine cdA fun K U=>?_|refine bn fun K U=>?_;go_simp|refine bq ?_);(refine cd ((hS.alloc _).alloc _) fun K U=>?_);go_simp;refine U _ _ ((hS.alloc _).alloc _) ?_;clear U K;go_wp2_with (first|refine cdA fun K U=>?_|refine bn fun K U=>?_;go_simp|refine bq ?_);go_meet
   case rel=>exact ⟨_,_,rfl,rfl,(by have h:=ax (W0.alloc (.cells #[.int .i64 (an:Nat)] 3)) 3 #[.int .i64 pg];rwa [af] at h),((ax W0 3 #[.int .i64 (an:Nat)]).alloc _),(hS.alloc _).alloc _,Nat.le_succ_of_le hS.size,hS.size⟩
 obtain ⟨b6,b7,rfl,rfl,h6,h7,mJ,AK⟩:=hcut;have zX:=bk AK;clear AK;have H6:=bk h6;have H7:=bk h7;have lL:=bk mJ;have q2:wc.cell? ⟨b2,0,none⟩ = some (.pointer (some ⟨gb pid,0,none⟩)):=by simpa using (oI.out wc mJ).cell 0
 have qA:wc.cell? ⟨gb pid,0,none⟩ = some (.pointer (some ⟨d,0,none⟩)):=by simpa [prc] using (HP.out wc mJ).blk.cell 0
 have q6:wc.cell? ⟨b6,0,none⟩ = some (.int .i64 pg):=by simpa using h6.cell 0
 have l2:=(oI.out wc mJ).lt;have lb:=(HP.out wc mJ).blk.lt;have l6:=h6.lt;obtain ⟨r0,rC⟩:∃z:Int,z = Ar.rt p.rl pg:=⟨_,rfl⟩;have pZ:Ar.hasB p.rl pg = decide (r0≠0):=by rw [rC];rfl
 have BH:=(HP.out wc mJ).sp.g pg;rw [← rC] at Bm yX BH;rw [pZ] at yX;have xB:=bk BH;clear h6 h7 mJ rC pZ BH c5 l3 rJ mV Dd;go_upto_region 2 with (fail)
 refine km [1,0,0,1,1,3,0,0,0,0,0] ?_;go_wp2_with (first|refine dy fun K U=>?_;go_simp;refine (yX.out _ lL.out.drew).mono ?_;rintro e W3 ⟨rfl,kM⟩;refine U _ _ ?_;clear U K;have kL:=bk (lL.out.drew.stay kM);have FV:=bk (H6.out.drew.chg kM ab);have Dk:=bk (H7.out.drew.chg kM ab);obtain ⟨c0,-,-,-,-,-,c6,-,-,-,-,-,l3,-⟩:=ay (lI.out W3 kL.out);rw [HK.out] at c0;clear kM q2 qA q6 l2 lb l6|refine cdA fun K U=>?_|refine bn fun K U=>?_;go_simp|refine bq ?_);go_cut [11,12] from 31 to 39 (fun z11 z12 W=>∃b11,z11 = .pointer (some ⟨b11,0,none⟩)∧z12 = .bool th∧Blk W b11 115 #[.pointer pa]∧Chg [] W3 W∧W3.heap.size≤b11)
 case first =>
  clear c0 c6 l3;refine rgt [5,0,0,5,5,5,0,0,0,6,3,0] [none,none,none,none,none,none,none,none,none,none,none,none] (fun W=>Chg [] W3 W) ?_;have hS:Chg [] W3 W3.drew:=(av [] W3).drew;generalize W3.drew = W0 at hS ⊢;go_wp2_with (first|refine ca 103 _ rfl rfl (fun w' kK=>jc Tryz.underlying103 (by simpa using (oI.out w' (kL.out.stay kK)).cell 0)) hS ?_|refine ca 110 _ rfl rfl (fun w' kK=>gy Tryz.underlying110 (by simpa [prc] using (HP.out w' (kL.out.stay kK)).blk.cell 1)) hS ?_|refine ca 3 _ rfl rfl (fun w' kK=>dg Tryz.underlying3 (by simpa using (FV.out.chg kK ab).cell 0)) hS ?_|refine sk 110 _ _ true rfl rfl rfl (fun w' kK=>vJ.out w' (kL.out.stay kK)) hS ?_|refine cdA fun K U=>?_|refine bn fun K U=>?_;go_simp|refine bq ?_);(refine cd hS fun K U=>?_);go_simp;refine U _ _ (hS.alloc _) ?_;clear U K;go_wp2_with (first|refine cdA fun K U=>?_|refine bn fun K U=>?_;go_simp|refine bq ?_);go_meet
  case rel=>exact ⟨_,rfl,rfl,ax W0 _ _,hS.alloc _,hS.size⟩
 obtain ⟨b11,rfl,rfl,nZ,mJ,yJ⟩:=hcut;have Dz:=bk yJ;have zJ:=bk nZ;have Dv:=bk (kL.out.stay mJ);have Dw:=bk mJ;clear nZ mJ yJ c0 c6 l3;go_upto_if 41 with (fail)
 go_cut [] from 41 to 42 (fun W=>∃pb,Blk W b11 115 #[.pointer (some ⟨pb,0,none⟩)]∧PgB W pb B'∧Chg [] W3 W∧((∃B,p.pg pg = some B∧pb = gp pg)∨(p.pg pg = none∧w.heap.size≤pb)))
 case first =>
  have l11:=zJ.out.lt;have f11:=zJ.out.frozen;rcases pF.out with ⟨ht,hv,hb⟩ | ⟨ht,hv,hb,hz⟩
  ·subst ht;have Dj:=bk (show Blk wc b11 115 #[.pointer (some ⟨gp pg,0,none⟩)] by rw [← hv];exact zJ.out);have Ai:=bk ((HP.out wc Dv.out).pg pg B' hb);have pK:=bk (show (∃B,p.pg pg = some B∧gp pg = gp pg)∨(p.pg pg = none∧w.heap.size≤gp pg) from .inl ⟨_,hb,rfl⟩);clear hv hb;go_wp2_with fail;go_meet
   case rel=>exact ⟨_,Dj.out,Ai.out,Dw.out,pK.out.imp (fun ⟨B,h,_⟩=>⟨B,h,rfl⟩) id⟩
  ·subst ht;have HZ:=bk hz;have pK:=bk (show (∃B,p.pg pg = some B∧wc.heap.size = gp pg)∨(p.pg pg = none∧w.heap.size≤wc.heap.size) from .inr ⟨hb,au lE.out.size Dv.out.size⟩);have q11:wc.cell? ⟨b11,0,none⟩ = some (.pointer pa):=(by simpa using zJ.out.cell 0);clear hv hb hz;go_wp2_with (first|refine rn rfl rfl ?_;try go_simp);go_meet
   case rel =>
    refine ⟨wc.heap.size,(Blk.set_ zJ.out 0 _).alloc _,?_,(Dw.out.setCell (p:=⟨b11,0,none⟩) (.inr Dz.out) _).alloc _,pK.out⟩;have h:=PgB.new (wc.setCell ⟨b11,0,none⟩ (.pointer (some ⟨wc.heap.size,0,none⟩)));rw [oy] at h;rw [HZ.out];exact h
 obtain ⟨pb,sR,sY,wM,Be⟩:=hcut;have pK:=bk Be;have vV:=bk sY;have tG:=bk wM;have xW:=bk (kL.out.stay wM);have vS:=bk sR;have oO:=bk (fun e W=>li e W);have HR:=bk (show ∀(R:Rs) A n c W W7,Chg [] W2 W→Chg [b4] W W7→R = (if r0 = 0 then bw 7 else if r0 % 2 = 0 then bw 190 else ⟨0,0,(B'.drop an).take sn⟩)→RB W7 (.slice A n c) R.l→(∀k∈own (.slice A n c),O k∨w.heap.size≤k)→AnsR w W7 m O X ((dt p x).1,none) (.returned (.tuple #[.agg (rsc R (.slice A n c)),.nilFunc]))∧Chg [] w W7 from fun R A n c W W7 h1 h2 h3 h4 h5=>by
  obtain rfl:R = (dt p x).1:=h3.trans Bm.out.symm
  exact ⟨⟨A,n,c,.nilFunc,rfl,h4,h5,rfl⟩,(lE.out.stay h1).trans h2 (fun y hy=>.inr (by obtain rfl:=aa hy;have:=HE.out;omega))⟩)
 obtain ⟨c0,-,-,-,-,-,c6,-,-,-,-,-,l3,-⟩:=ay (lI.out wc xW.out);rw [HK.out] at c0;have lF:=bk (bf lG.out xW.out);clear sR sY wM Be oI vJ yX kL Dv Dw H6;rcases (by have:=xB.out;omega:r0 = 0∨r0 = 1∨r0 = 2∨r0 = 3) with rfl | rfl | rfl | rfl
 ·go_wp2_with fail;refine (oO.out _ _).mono ?_;rintro e W6 ⟨rfl,kF⟩;have qW:=bk (bf lF.out kF);have mA:=bk (xW.out.stay kF);clear kF;go_wp2_with (first|refine bu (b:=b4) (y:=bw 7) (u:=zV) rfl _ _ rfl rfl rfl rfl qW.out ?_;intro W7 h7 kN);exact bodyPost_ret (v:=.tuple #[.agg (rsc (bw 7) zV),.nilFunc]) (ci (p:=4) (q:=5) rfl _ rfl h7) rfl (HR.out _ _ _ _ _ W7 mA.out kN rfl (RE.nil _ _ _ _ _) (fun _ h=>(cw h).elim))
 ·have hb:bits BinOp.and .u8 1 1 = 1:=by decide
  have Ba:x.s = (sn:Int):=sA.symm;rw [Ba] at c6;have q11:wc.cell? ⟨b11,0,none⟩ = some (.pointer (some ⟨pb,0,none⟩)):=by simpa using vS.out.cell 0
  have q7:wc.cell? ⟨b7,0,none⟩ = some (.int .i64 (an:Nat)):=by simpa using (Dk.out.chg tG.out ab).cell 0
  have l11:=vS.out.lt;have l7:=(Dk.out.chg tG.out ab).lt;have lp:=vV.out.blk.lt;have zP:=bk (br_l (some ⟨pb,an,none⟩) sn (256 - an) ((B'.drop an).take sn));have HXd:=bk (show XB wc.drew b4 zRs zV from lF.out);have i0:(0:Int)≤(an:Int):=by omega
  have i1:(an:Int)≤(an:Int)+(sn:Int):=by omega
  have i2:(an:Int)+(sn:Int)≤256:=by have:=HB.out;omega
  have tE:=fun W=>vw (pb:=pb) HB.out HS1.out W;clear Ba sA;go_upto_region 14 with (fail)
  refine km [1,0,1,1,0,1,0,0,0,3,0] ?_;go_wp2_with (first|refine jp _ rfl zP.out ?_ ?_;(focus (simp [Act.eval];done))|refine dy fun K U=>?_;refine ja (y:=⟨0,0,((B'.drop an).take sn)⟩) (u:=.slice (some ⟨pb,an,none⟩) sn (256 - an)) _ _ rfl rfl rfl rfl HXd.out ?_;intro W7 h7 kN;refine U _ _ ?_;clear U K|refine cdA fun K U=>?_|refine bn fun K U=>?_;go_simp|refine bq ?_)
  exact bodyPost_ret (v:=.tuple #[.agg (rsc ⟨0,0,((B'.drop an).take sn)⟩ (.slice (some ⟨pb,an,none⟩) sn (256 - an))),.nilFunc]) (ci (p:=4) (q:=5) rfl _ rfl h7) rfl (HR.out ⟨0,0,((B'.drop an).take sn)⟩ (some ⟨pb,an,none⟩) sn (256 - an) wc.drew W7 (xW.out.drew) kN rfl (by
  have Bw:=HB.out
  exact PgB.piece (⟨aw (show Blk wc.drew pb _ _ from vV.out.blk) kN (by simp;exact Blk.ne_ vV.out.blk lF.out (by decide)),vV.out.len,vV.out.b8⟩:PgB W7 pb B') Bw (by omega)) (fun k hk=>by rw [fd] at hk;obtain rfl:=aa hk;exact pK.out.imp (uT.out _) (fun h=>h.2)))
 ·have hb:bits BinOp.and .u8 2 1 = 0:=by decide
  go_wp2_with fail;refine (oO.out _ _).mono ?_;rintro e W6 ⟨rfl,kF⟩;have qW:=bk (bf lF.out kF);have mA:=bk (xW.out.stay kF);clear kF;go_wp2_with (first|refine bu (b:=b4) (y:=bw 190) (u:=zV) rfl _ _ rfl rfl rfl rfl qW.out ?_;intro W7 h7 kN);exact bodyPost_ret (v:=.tuple #[.agg (rsc (bw 190) zV),.nilFunc]) (ci (p:=4) (q:=5) rfl _ rfl h7) rfl (HR.out _ _ _ _ _ W7 mA.out kN rfl (RE.nil _ _ _ _ _) (fun _ h=>(cw h).elim))
 ·have hb:bits BinOp.and .u8 3 1 = 1:=by decide
  have Ba:x.s = (sn:Int):=sA.symm;rw [Ba] at c6;have q11:wc.cell? ⟨b11,0,none⟩ = some (.pointer (some ⟨pb,0,none⟩)):=by simpa using vS.out.cell 0
  have q7:wc.cell? ⟨b7,0,none⟩ = some (.int .i64 (an:Nat)):=by simpa using (Dk.out.chg tG.out ab).cell 0
  have l11:=vS.out.lt;have l7:=(Dk.out.chg tG.out ab).lt;have lp:=vV.out.blk.lt;have zP:=bk (br_l (some ⟨pb,an,none⟩) sn (256 - an) ((B'.drop an).take sn));have HXd:=bk (show XB wc.drew b4 zRs zV from lF.out);have i0:(0:Int)≤(an:Int):=by omega
  have i1:(an:Int)≤(an:Int)+(sn:Int):=by omega
  have i2:(an:Int)+(sn:Int)≤256:=by have:=HB.out;omega
  have tE:=fun W=>vw (pb:=pb) HB.out HS1.out W;clear Ba sA;go_upto_region 14 with (fail)
  refine km [1,0,1,1,0,1,0,0,0,3,0] ?_;go_wp2_with (first|refine jp _ rfl zP.out ?_ ?_;(focus (simp [Act.eval];done))|refine dy fun K U=>?_;refine ja (y:=⟨0,0,((B'.drop an).take sn)⟩) (u:=.slice (some ⟨pb,an,none⟩) sn (256 - an)) _ _ rfl rfl rfl rfl HXd.out ?_;intro W7 h7 kN;refine U _ _ ?_;clear U K|refine cdA fun K U=>?_|refine bn fun K U=>?_;go_simp|refine bq ?_)
  exact bodyPost_ret (v:=.tuple #[.agg (rsc ⟨0,0,((B'.drop an).take sn)⟩ (.slice (some ⟨pb,an,none⟩) sn (256 - an))),.nilFunc]) (ci (p:=4) (q:=5) rfl _ rfl h7) rfl (HR.out ⟨0,0,((B'.drop an).take sn)⟩ (some ⟨pb,an,none⟩) sn (256 - an) wc.drew W7 (xW.out.drew) kN rfl (by
  have Bw:=HB.out
  exact PgB.piece (⟨aw (show Blk wc.drew pb _ _ from vV.out.blk) kN (by simp;exact Blk.ne_ vV.out.blk lF.out (by decide)),vV.out.len,vV.out.b8⟩:PgB W7 pb B') Bw (by omega)) (fun k hk=>by rw [fd] at hk;obtain rfl:=aa hk;exact pK.out.imp (uT.out _) (fun h=>h.2)))
theorem nz {b:List Nat} {a:Nat} (h:a+l.length≤b.length):(di b a l).length = b.length:=by unfold di;simp only [List.length_append,List.length_take,List.length_drop];omega
theorem aV {b:List Nat} {a:Nat} (hb:∀x∈b,x < 256) (hl:∀x∈l,x < 256):∀x∈di b a l,x < 256:=by
 unfold di;intro x hx;rcases List.mem_append.1 hx with hx | hx
 ·rcases List.mem_append.1 hx with hx | hx
  ·exact hb x (List.mem_of_mem_take hx)
  ·exact hl x hx
 ·exact hb x (List.mem_of_mem_drop hx)
theorem Ar.AMem.tight {d:Nat} {l:List Ar.Rn} {F:List Nat} (h:Ar.AMem w d l F):∃F',Ar.AMem w d l F'∧(∀k∈F',k∈F)∧∀k∈F',(∃cs,Blk w k 142 cs)∨∃cs,Blk w k 144 cs:=by
 obtain ⟨v,hb,hs,hF,kG⟩:=h;refine ⟨d :: own v,⟨v,hb,hs,fun k hk=>hk,fun k hk=>kG k (hF k hk)⟩,hF,fun k hk=>?_⟩;rcases List.mem_cons.1 hk with rfl | hk
 ·exact .inl ⟨_,hb⟩
 ·obtain ⟨cur,hc⟩:=Sl.blk hs hk;exact .inr ⟨_,hc⟩
section
variable {w W:World} {m:Nat} {M:Mo} {O:Nat→Prop} {bp bo be:Nat} {fp fo fe:Int→Option Value} {gb:Int→Nat} {GF:Int→Nat→Prop} {ov:Int→Value}
theorem eQ (hI:MIn w m M bp bo be fp fo fe gb GF ov) (hO:∀k,FMo M m bp bo be GF ov k→O k) (hl:∀k,O k→k < w.heap.size) {pid:Int} {p:Pr} (hp:M.pr pid = some p)
  {d:Nat} {FA:List Nat} {qp qo:Nat} {gp' go':Int→Option Value} {gp:Int→Nat} (hP:PIn w (gb pid) p d FA qp qo gp' go' gp) (mI:∀k,FPr p (gb pid) FA qp qo gp k→GF pid k) (pA:∀k,GF pid k→k < w.heap.size)
  {pg:Int} {B2:List Nat} {pb:Nat} (sY:(∃B,p.pg pg = some B∧pb = gp pg)∨(p.pg pg = none∧¬ O pb)) (zA:∃B,PgB w pb B)
  (hc:Chg [pb,qp] w W) (hB:PgB W pb B2) (h1:MapB W qp .i64 fun y=>if y = pg then some (.pointer (some ⟨pb,0,none⟩)) else gp' y) :
  CP (fun k=>O k∨k = pb) w W∧∃O',MMem W m { M with pr:=upd M.pr pid (some { p with pg:=upd p.pg pg (some B2) }) } O'∧∀k,O' k→O k∨k = pb:=by
 have CY:∀k,GF pid k→O k:=fun k hk=>hO k (.inr (.inr (.inr (.inr (.inl ⟨pid,p,hp,hk⟩)))));have hG:CP (fun k=>k = pb∨k = qp) w W:=CP.of hc (fun k hk=>.inl (by simpa using hk));have sI:∀n B,p.pg n = some B→GF pid (gp n):=fun n B h=>mI _ (.inr (.inr (.inr (.inr ⟨n,B,h,rfl⟩))));have nqp:pb≠qp:=by
  rcases sY with ⟨B,h,e⟩ | ⟨_,h⟩
  ·rw [e];exact bj (hP.pg pg B h).blk hP.mp
  ·exact fun e=>h (e ▸ CY _ (mI _ (.inr (.inr (.inl rfl)))))
 obtain ⟨B0,zA⟩:=zA;have npb:gb pid≠pb:=(Blk.ne_ zA.blk hP.blk (by decide)).symm;have nqo:pb≠qo:=bj zA.blk hP.mo;obtain ⟨FB,GX,mQ,yP⟩:=hP.ar.tight;have nFA:pb∉FB:=fun hk=>by
  rcases yP pb hk with ⟨cs,h⟩ | ⟨cs,h⟩
  ·exact Blk.ne_ h zA.blk (by decide) rfl
  ·exact Blk.ne_ h zA.blk (by decide) rfl
 have Eq:∀n B,p.pg n = some B→n≠pg→gp n≠pb:=fun n B h hn e=>by
  rcases sY with ⟨B',h',e'⟩ | ⟨_,h'⟩
  ·exact hn (hP.inj n pg B B' h h' (e.trans e'))
  ·exact h' (e ▸ CY _ (sI n B h))
 have nK:∀n B,upd p.pg pg (some B2) n = some B→n≠pg→p.pg n = some B:=fun n B h hn=>by rwa [fu _ _ hn] at h
 have mW:=hc.size;obtain ⟨r1,O',r2,r3⟩:=aN (G:=fun k=>k = pb∨k = qp) (F':=fun k=>GF pid k∨k = pb) hI hO hl hp hG
  (by
   rintro k (rfl | rfl)
   ·rcases sY with ⟨B,h,e⟩ | ⟨_,h⟩
    ·exact .inl (e ▸ sI pg B h)
    ·exact .inr h
   ·exact .inl (mI _ (.inr (.inr (.inl rfl)))))
  (p':={ p with pg:=upd p.pg pg (some B2) })
  ⟨d,FB,qp,qo,_,go',upd gp pg pb,⟨hP.blk.cp hG (by rintro (e | e);exact npb e;exact bj hP.blk hP.mp e),GX.cp hG (by
    rintro k hk (e | e)
    ·exact nFA (e ▸ hk)
    ·rcases yP k hk with ⟨cs,h⟩ | ⟨cs,h⟩
     ·exact bj h hP.mp e
     ·exact bj h hP.mp e),hP.sp,h1,hP.mo.cp hG (by rintro (e | e);exact nqo e.symm;exact hP.ne e.symm),fun n=>by
    show (if n = pg then some (Value.pointer (some ⟨pb,0,none⟩)) else gp' n) = (upd p.pg pg (some B2) n).map _
    by_cases hn:n = pg
    ·rw [ah hn,hn,gn,gn];rfl
    ·rw [ag hn,fu _ _ hn,fu _ _ hn];exact hP.hp n,hP.ho,fun n B h=>by
    by_cases hn:n = pg
    ·subst hn
     have h2:upd p.pg n (some B2) n = some B:=h
     rw [gn] at h2
     obtain rfl:=aq h2
     rw [gn];exact hB
    ·rw [fu _ _ hn]
     have h2:=nK n B h hn
     exact (hP.pg n B h2).cp hG (by
      rintro (e | e)
      ·exact Eq n B h2 hn e
      ·exact bj (hP.pg n B h2).blk hP.mp e),fun n n' B B' h h' e=>by
    by_cases hn:n = pg
    ·by_cases oU:n' = pg
     ·rw [hn,oU]
     ·rw [hn,gn,fu _ _ oU] at e
      exact absurd e.symm (Eq n' B' (nK n' B' h' oU) oU)
    ·by_cases oU:n' = pg
     ·rw [oU,gn,fu _ _ hn] at e
      exact absurd e (Eq n B (nK n B h hn) hn)
     ·rw [fu _ _ hn,fu _ _ oU] at e
      exact hP.inj n n' B B' (nK n B h hn) (nK n' B' h' oU) e,hP.ne,hP.pk,hP.pm,hP.ow⟩,by
   rintro k (rfl | hk | rfl | rfl | ⟨n,B,h,rfl⟩)
   ·exact .inl (mI _ (.inl rfl))
   ·exact .inl (mI _ (.inr (.inl (mQ k hk))))
   ·exact .inl (mI _ (.inr (.inr (.inl rfl))))
   ·exact .inl (mI _ (.inr (.inr (.inr (.inl rfl)))))
   ·by_cases hn:n = pg
    ·rw [hn,gn];exact .inr rfl
    ·rw [fu _ _ hn];exact .inl (sI n B (nK n B h hn)),by
   rintro k (hk | rfl)
   ·have:=pA k hk;omega
   ·have:=zA.blk.lt;omega⟩
  (by
   rintro k (hk | rfl)
   ·exact .inl hk
   ·rcases sY with ⟨B,h,e⟩ | ⟨_,h⟩
    ·exact .inl (e ▸ sI pg B h)
    ·exact .inr h)
 refine ⟨?_,O',r2,fun k hk=>?_⟩
 ·obtain ⟨L,g1,g2⟩:=r1;refine ⟨L,g1,fun k hk=>(g2 k hk).imp (fun h=>?_) id⟩;rcases h with h | h | h
  ·exact .inl h
  ·exact .inr h
  ·exact .inl (h ▸ CY _ (mI _ (.inr (.inr (.inl rfl)))))
 ·rcases r3 k hk with h | h | h
  ·exact .inl h
  ·exact .inl (CY _ h)
  ·exact .inr h
theorem free_end (hI:MIn w m M bp bo be fp fo fe gb GF ov) (hO:∀k,FMo M m bp bo be GF ov k→O k) (hl:∀k,O k→k < w.heap.size) {z:Int} (hc:Chg [bo] w W)
  (ho:MapB W bo .u64 fun y=>if y = z then none else fo y) :
  CP O w W∧∃O',MMem W m { M with ob:=upd M.ob z none } O'∧∀k,O' k→O k∨w.heap.size≤k:=by
 have kT:∀h B,upd M.ob z none h = some B→M.ob h = some B:=fun h B e=>by
  by_cases e2:h = z
  ·rw [e2,gn] at e;cases e
  ·rwa [fu _ _ e2] at e
 refine bI hI hO hl hc (fun k hk=>.inl (aa hk)) (ov':=ov) ho (hI.me.chg hc (by simp;exact fun e=>hI.d3 e.symm)) (fun h=>?_) (fun h B e=>?_) (fun h h' B B' e e'=>hI.oa h h' B B' (kT h B e) (kT h' B' e')) hI.he (fun h B e k hk=>.inl ⟨h,B,kT h B e,hk⟩)
 ·by_cases e:h = z
  ·simp [upd,e]
  ·simp only [upd,ag e];exact hI.ho h
 ·have hb:=hI.ob h B (kT h B e);exact ⟨hb.1.chg hc (fun k hk h2=>by
   obtain rfl:=aa h2
   exact SB.ne_map hb.1 hI.mo hk),hb.2⟩
theorem poke_end (hI:MIn w m M bp bo be fp fo fe gb GF ov) (hO:∀k,FMo M m bp bo be GF ov k→O k) (hl:∀k,O k→k < w.heap.size) {z:Int} {B:List Nat} (hz:M.ob z = some B) {a:Nat} {l:List Nat} (ha:a+l.length≤B.length) (tD:∀x∈l,x < 256)
  (hc:Chg (own (ov z)) w W) (hS:SB W (ov z) (di B a l)) :
  CP O w W∧∃O',MMem W m { M with ob:=upd M.ob z (some (di B a l)) } O'∧∀k,O' k→O k∨w.heap.size≤k:=by
 have zG:=hI.ob z B hz;have kT:∀h B',upd M.ob z (some (di B a l)) h = some B'→∃B'',M.ob h = some B'':=fun h B' e=>by
  by_cases e2:h = z
  ·exact ⟨B,e2 ▸ hz⟩
  ·rw [fu _ _ e2] at e;exact ⟨B',e⟩
 have nmo:bo∉own (ov z):=SB.ne_map zG.1 hI.mo;have nme:be∉own (ov z):=SB.ne_map zG.1 hI.me;refine bI hI hO hl hc (fun k hk=>.inr (.inr (.inl ⟨z,B,hz,hk⟩))) (ov':=ov) (hI.mo.chg hc nmo) (hI.me.chg hc nme) (fun h=>?_) (fun h B' e=>?_) (fun h h' B1 B2 e e'=>?_) hI.he fun h B' e k hk=>?_
 ·by_cases e:h = z
  ·subst e;rw [gn,hI.ho,hz];rfl
  ·rw [fu _ _ e];exact hI.ho h
 ·by_cases e2:h = z
  ·subst e2;rw [gn] at e;obtain rfl:=aq e;exact ⟨hS,aV zG.2.1 tD,by rw [nz ha];exact zG.2.2⟩
  ·rw [fu _ _ e2] at e;have hb:=hI.ob h B' e;exact ⟨hb.1.chg hc (fun k hk rU=>hI.oa h z B' B e hz e2 k hk rU),hb.2⟩
 ·obtain ⟨B1',e1⟩:=kT h B1 e;obtain ⟨B2',e2⟩:=kT h' B2 e';exact hI.oa h h' B1' B2' e1 e2
 ·obtain ⟨B'',e1⟩:=kT h B' e;exact .inl ⟨h,B'',e1,hk⟩
end
theorem info5s:(Tryz.prog.info? 5).map (·.size) = some 1:=by kernel_rfl
variable {B:List Nat}
theorem PgB.copy {pb an:Nat} (h:PgB w pb B) (hv:RB w v l) (h1:1≤l.length) (hn:an+l.length≤256) (hl:∀x∈l,x < 256) :
  ∃w' u,(∀ty,(Builtin.copy_ #[38,38] ty #[.slice (some ⟨pb,an,none⟩) (256 - an) (256 - an),v]).run Tryz.prog w = .ok u w')∧PgB w' pb (di B an l)∧Chg [pb] w w':=by
 obtain ⟨A,c,rfl⟩:=RE.form hv;obtain ⟨g,off,rfl⟩:=RE.addr hv (by omega);have kQ:=h.len;have BA:(fc ucl l).length = l.length:=by rw [nv,List.length_map]
 have mW:(pgc B).size = 256:=by unfold pgc;simp [kQ]
 have EI:∀j u,(fc ucl l)[j]? = some u→w.cell? ((⟨g,off,none⟩:Addr).add j) = some u:=fun j u hu=>by
  obtain ⟨_,A',c',e,_,Cj⟩:=hv;obtain ⟨g2,off2,e',hc⟩:=Cj (by omega);rw [e'] at e;injection e with e _ _;injection e with e;injection e with ea eb;subst ea;subst eb;rw [Addr.add_lit];exact hc j u hu
 have e1:((pgc B).toList.take an ++ fc ucl l ++ (pgc B).toList.drop (an+(fc ucl l).length)).toArray = pgc (di B an l):=by
  rw [BA];unfold pgc di;rw [nv];simp [List.map_take,List.map_drop]
 refine ⟨_,_,fun ty=>run_copy_row Tryz.prog w 38 38 ty 5 pb an (256 - an) (256 - an) ⟨g,off,none⟩ l.length c (pgc B) _ (fc ucl l) Tryz.underlying38 info5s h.blk (by rw [BA];exact (Nat.min_eq_left (by omega)).symm) EI (by rw [BA];omega) (wv l),?_,?_⟩
 ·refine ⟨?_,by rw [nz (by omega)];exact kQ,aV h.b8 hl⟩;have:=setRow_heap w pb _ ((pgc B).toList.take an ++ fc ucl l ++ (pgc B).toList.drop (an+(fc ucl l).length)).toArray _ _ h.blk;rw [e1] at this ⊢;exact this
 ·exact (av [pb] w).setRow (.inl (by simp)) _
theorem wd {w':World} (s x:Operand) (ho:o.op = .call { callee:=.builtin .copy,args:=#[s,x],argTypes:=#[38,38] })
  {v y u:Value} (hs:a.eval s = v) (hx:a.eval x = y) (nL:∀ty,(Builtin.copy_ #[38,38] ty #[v,y]).run Tryz.prog w = .ok u w') (h:K (a.put o.dst u) w'):o.wp Tryz.prog a w K Q:=by
 unfold Oper.wp execOp;simp only [ho,resolve,invoke,builtin,Sem.run_bind,Sem.run_pure,Result.andThen_ok,List.map_toArray,List.map_cons,List.map_nil,hs,hx,nL];exact h
theorem iS
  (hI:MIn w m M bp bo be fp fo fe gb GF ov) (hO:∀k,FMo M m bp bo be GF ov k→O k) (hl:∀k,O k→k < w.heap.size) {pid:Int} {p:Pr} (hp:M.pr pid = some p)
  {d:Nat} {FA:List Nat} {qp qo:Nat} {gp' go':Int→Option Value} {gp:Int→Nat} (hP:PIn w (gb pid) p d FA qp qo gp' go' gp) (mI:∀k,FPr p (gb pid) FA qp qo gp k→GF pid k) (pA:∀k,GF pid k→k < w.heap.size)
  {b11 b7 b3 b2 b6 pb an:Nat} {pg:Int} {B':List Nat} {x:Cl} {v:Value} (sY:(∃B,p.pg pg = some B∧pb = gp pg)∨(p.pg pg = none∧¬ O pb)) (hB:PgB w pb B')
  (nZ:Blk w b11 115 #[.pointer (some ⟨pb,0,none⟩)]) (h7:Blk w b7 3 #[.int .i64 (an:Nat)]) (h3:KB w b3 x v) (h2:Blk w b2 103 #[.pointer (some ⟨gb pid,0,none⟩)]) (h6:Blk w b6 3 #[.int .i64 pg])
  (hv:RB w v x.l) (h1:1≤x.l.length) (hn:an+x.l.length≤256) (tD:∀y∈x.l,y < 256) :
  Calls Tryz.prog 99 #[.pointer (some ⟨b11,0,none⟩),.pointer (some ⟨b7,0,none⟩),.pointer (some ⟨b3,0,none⟩),.pointer (some ⟨b2,0,none⟩),.pointer (some ⟨b6,0,none⟩)] w fun e W'=>e = .returned (.tuple #[])∧CP (fun k=>O k∨k = pb) w W' ∧
   ∃O',MMem W' m { M with pr:=upd M.pr pid (some { p with pg:=upd p.pg pg (some (di B' an x.l)) }) } O'∧∀k,O' k→O k∨k = pb:=by
 have H99D:=bk (fun W (hc:Chg [pb,qp] w W) (hB2:PgB W pb (di B' an x.l))=>@eQ w W m M O bp bo be fp fo fe gb GF ov hI hO hl pid p hp d FA qp qo gp' go' gp hP mI pA pg (di B' an x.l) pb sY ⟨B',hB⟩ hc hB2);obtain ⟨W5,u5,nL,Cd,kE⟩:=PgB.copy (w:=w.drew) (show PgB w.drew pb B' from ⟨hB.blk,hB.len,hB.b8⟩) (show RB w.drew v x.l from hv) h1 hn tD;have q11:w.cell? ⟨b11,0,none⟩ = some (.pointer (some ⟨pb,0,none⟩)):=by simpa using nZ.cell 0
 have q7:w.cell? ⟨b7,0,none⟩ = some (.int .i64 (an:Nat)):=by simpa using h7.cell 0
 have q3:=(ay h3).2.2.2.2.2.2.2.2.2.2.2.1;have l11:=nZ.lt;have l7:=h7.lt;have l3:=h3.lt;have lpb:=hB.blk.lt;have n1:(0:Int)≤(an:Int):=by omega
 have n2:(an:Int)≤256:=by omega
 have n3:¬ (an:Int) = 256:=by omega
 have n4:¬ an = 256:=by omega
 have tE:=fun W=>fT (pb:=pb) (show an < 256 by omega) W;have pJ:=bk nL;have oB:=bk Cd;have kU:=bk kE;have Ip:MapB W5 qp .i64 gp':=(show MapB w.drew qp .i64 gp' from hP.mp).chg kE (fun e=>bj hB.blk hP.mp (aa e).symm);have tY:=bk (show MapB W5.drew qp .i64 gp' from Ip);have h25:Blk W5 b2 103 #[.pointer (some ⟨gb pid,0,none⟩)]:=(show Blk w.drew b2 _ _ from h2).chg kE (by simp;exact Blk.ne_ h2 hB.blk (by decide));have DS:Blk W5 b6 3 #[.int .i64 pg]:=(show Blk w.drew b6 _ _ from h6).chg kE (by simp;exact Blk.ne_ h6 hB.blk (by decide));have GT:Blk W5 b11 115 #[.pointer (some ⟨pb,0,none⟩)]:=(show Blk w.drew b11 _ _ from nZ).chg kE (by simp;exact Blk.ne_ nZ hB.blk (by decide));have BB:Blk W5 (gb pid) 113 (prc d qp qo p):=(show Blk w.drew (gb pid) _ _ from hP.blk).chg kE (by simp;exact (Blk.ne_ hB.blk hP.blk (by decide)).symm);have HQ:=bk (ai h25 (ai DS (ai GT BB)));have HNQ:=bk (show pb≠qp from bj hB.blk hP.mp);generalize di B' an x.l = B2 at *;clear Ip hI hO hl hp hP mI pA sY hB nZ h7 h3 h2 h6 hv h1 hn tD nL Cd kE h25 DS GT BB;go_enter Tryz.func99,Tryz.ntmps99;go_upto_region 0 with (fail)
 refine rgn7 [1,0,1,0,0,1,3] ?_;go_wp2_with (first|refine dy fun K U=>?_;refine wd _ _ rfl rfl rfl pJ.out ?_;refine U _ _ ?_;clear U K|refine cdA fun K U=>?_|refine bn fun K U=>?_;go_simp|refine bq ?_);clear q11 q7 q3 l11 l7 l3 lpb;have q2:W5.cell? ⟨b2,0,none⟩ = some (.pointer (some ⟨gb pid,0,none⟩)):=by simpa using HQ.out.1.cell 0
 have q6:W5.cell? ⟨b6,0,none⟩ = some (.int .i64 pg):=by simpa using HQ.out.2.1.cell 0
 have q11:W5.cell? ⟨b11,0,none⟩ = some (.pointer (some ⟨pb,0,none⟩)):=by simpa using HQ.out.2.2.1.cell 0
 have qp1:W5.cell? ⟨gb pid,1,none⟩ = some (.map (some qp)):=by simpa [prc] using HQ.out.2.2.2.cell 1
 have l2:=HQ.out.1.lt;have l6:=HQ.out.2.1.lt;have l11:=HQ.out.2.2.1.lt;have lb:=HQ.out.2.2.2.lt;refine rgn7 [1,0,0,1,1,1,3] ?_;go_wp2_with (first|refine dy fun K U=>?_;refine ir _ _ _ rfl Tryz.underlying110 Tryz.underlying3 rfl rfl rfl tY.out ?_;intro W6 h6 kF;refine U _ _ ?_;clear U K|refine cdA fun K U=>?_|refine bn fun K U=>?_;go_simp|refine bq ?_);go_end0;have mO:Chg [pb,qp] w W6:=((((av [] w).drew).then_ (kU.out)).drew.mono (fun y hy=>.inl (by simp at hy;simp [hy]))).trans kF (fun y hy=>.inl (by simp at hy;simp [hy]));exact ⟨rfl,H99D.out W6 mO (by
  have:=HNQ.out
  exact ⟨(show Blk W5.drew pb _ _ from oB.out.blk).chg kF (by simpa using this),oB.out.len,oB.out.b8⟩) h6⟩
theorem kC
  (hI:MIn w m M bp bo be fp fo fe gb GF ov) (hO:∀k,FMo M m bp bo be GF ov k→O k) (hl:∀k,O k→k < w.heap.size) {pid:Int} {p:Pr} (hp:M.pr pid = some p)
  {x:Cl} {v:Value} (hk:x.k = 9) (hx:0≤x.a∧x.a < 262144∧1≤x.l.length∧x.a % 256+x.l.length≤256) (hv:RB w v x.l) (hX:x.l≠[]→∀k∈own v,k∈X) (tD:∀y∈x.l,y < 256) :
  Calls Tryz.prog 69 #[.pointer (some ⟨gb pid,0,none⟩),.agg (clc x v)] w fun e w'=>AnsR w w' m O X ((dt p x).1,(dt p x).2.map fun q=>{ M with pr:=upd M.pr pid (some q) }) e∧Chg [] w w':=by
 obtain ⟨d,FA,qp,qo,gp',go',gp,hP,mI,pA⟩:=hI.pr pid p hp;obtain ⟨W2,kJ⟩:∃W2,W2 = ((w.alloc (.cells #[.pointer (some ⟨gb pid,0,none⟩)] 103)).alloc (.cells (clc x v) 47)).alloc (.cells (rsc zRs zV) 40):=⟨_,rfl⟩;have kI:Chg [] w W2:=by rw [kJ];exact (((av [] w).alloc _).alloc _).alloc _
 have lV:Blk W2 w.heap.size 103 #[.pointer (some ⟨gb pid,0,none⟩)]:=by rw [kJ];exact ((ax w _ _).alloc _).alloc _
 have lD:KB W2 (w.heap.size+1) x v:=by
  have:=ax (w.alloc (.cells #[.pointer (some ⟨gb pid,0,none⟩)] 103)) 47 (clc x v);rw [af] at this;rw [kJ];exact this.alloc _
 have lZ:XB W2 (w.heap.size+1+1) zRs zV:=by
  have:=ax ((w.alloc (.cells #[.pointer (some ⟨gb pid,0,none⟩)] 103)).alloc (.cells (clc x v) 47)) 40 (rsc zRs zV);rw [af,af] at this;rw [kJ];exact this
 obtain ⟨b2,e2⟩:∃b,b = w.heap.size:=⟨_,rfl⟩;obtain ⟨b3,e3⟩:∃b,b = w.heap.size+1:=⟨_,rfl⟩;obtain ⟨b4,e4⟩:∃b,b = w.heap.size+1+1:=⟨_,rfl⟩;rw [← e4] at lZ;rw [← e3] at lD;rw [← e2] at lV;have HE:=bk (ai e2 (ai e3 e4));have HP:=bk (fun W (h:Chg [] W2 W)=>(show PIn W (gb pid) p d FA qp qo gp' go' gp from hP.cp (CP.of0 (F:=fun _=>False) (kI.stay h)) (fun _ _ h=>h)));have oI:=bk (fun W (h:Chg [] W2 W)=>lV.chg h ab);have lI:=bk (fun W (h:Chg [] W2 W)=>bh lD h);have lG:=bk lZ;have lE:=bk kI;have kW:=bk kJ;obtain ⟨pg,sI⟩:∃z:Int,z = x.a / 256:=⟨_,rfl⟩;obtain ⟨an,qP⟩:∃z:Nat,(z:Int) = x.a % 256:=⟨(x.a % 256).toNat,by omega⟩;obtain ⟨sn,sA⟩:∃z:Nat,z = x.l.length:=⟨_,rfl⟩;have HB:=bk (show an+sn≤256 by omega);have HN:=bk (show 1≤x.l.length∧an+x.l.length≤256 by omega);have t1:(x.a % 256).toNat = an:=by omega
 have hsn0:sn≤256:=by omega
 have han0:an≤256:=by omega
 have rJ:wrap64 (x.a.tdiv 256) = pg:=by rw [sI,Int.tdiv_eq_ediv_of_nonneg hx.1];unfold wrap64;omega
 have mV:wrap64 (x.a.tmod 256) = (an:Int):=by clear rJ;rw [qP,Int.tmod_eq_emod_of_nonneg hx.1];unfold wrap64;omega
 have Dd:x.a.tmod 256 = (an:Int):=by clear rJ mV;rw [qP,Int.tmod_eq_emod_of_nonneg hx.1]
 have CE:wrap64 ((an:Int)+(sn:Int)) = (an:Int)+(sn:Int):=by clear rJ mV;unfold wrap64;omega
 have Bm:=bk (show (((dt p x).1,(dt p x).2.map fun q=>{ M with pr:=upd M.pr pid (some q) }):Rs × Option Mo) = (if Ar.rt p.rl pg = 0 then (bw 7,none) else if Ar.rt p.rl pg < 2 then (bw 190,none) else (bw 0,some { M with pr:=upd M.pr pid (some { p with pg:=upd p.pg pg (some (di ((p.pg pg).getD zeroPg) an x.l)) }) })) by
  unfold dt
  rw [← sI,t1,hk]
  simp only [show (9:Nat)≠8 by decide,if_false]
  split
  ·rfl
  ·split <;> rfl)
 have sO:=bk (fun (W:World) (w':World) (G:List Nat) (hG:Off w O X G) (hc:Chg [] w w') (hW:Chg G w' W) b11 b7 b3 b2 b6 pb B' (sY:(∃B,p.pg pg = some B∧pb = gp pg)∨(p.pg pg = none∧w.heap.size≤pb)) (hB:PgB W pb B') (nZ:Blk W b11 115 #[.pointer (some ⟨pb,0,none⟩)]) (h7:Blk W b7 3 #[.int .i64 (an:Nat)]) (h3:KB W b3 x v) (h2:Blk W b2 103 #[.pointer (some ⟨gb pid,0,none⟩)]) (h6:Blk W b6 3 #[.int .i64 pg]) =>
  iS (hI.off hO (hG.cp hc hW)) hO (fun k hk=>al (hl k hk) (hG.cp hc hW).size) hp (hP.cp (hG.cp hc hW) (fun k hk hn=>hn (hO k (.inr (.inr (.inr (.inr (.inl ⟨pid,p,hp,mI k hk⟩)))))))) mI (fun k hk=>al (pA k hk) (hG.cp hc hW).size) (sY.imp id (fun h=>⟨h.1,fun ho=>Nat.not_lt.2 h.2 (hl _ ho)⟩)) hB nZ h7 h3 h2 h6 ((hv.stay hc).chg hW (fun k hk=>hG.out (hX (fun h=>by rw [h] at hx;simp at hx) k hk))) HN.out.1 HN.out.2 tD)
 have HEO:=bk (show ∀k pb,O k∨k = pb→w.heap.size≤pb∨(∃B,p.pg pg = some B∧pb = gp pg)→O k∨w.heap.size≤k from fun k pb h1 h2=>by
  rcases h1 with h1 | rfl
  ·exact .inl h1
  ·rcases h2 with h2 | ⟨B,h2,h3⟩
   ·exact .inr h2
   ·exact .inl (h3 ▸ hO _ (.inr (.inr (.inr (.inr (.inl ⟨pid,p,hp,mI _ (.inr (.inr (.inr (.inr ⟨pg,B,h2,rfl⟩))))⟩)))))))
 have HK:=bk hk;have uT:=bk (show ∀pb,(∃B,p.pg pg = some B∧pb = gp pg)→O pb from fun pb ⟨B,h2,h3⟩=>h3 ▸ hO _ (.inr (.inr (.inr (.inr (.inl ⟨pid,p,hp,mI _ (.inr (.inr (.inr (.inr ⟨pg,B,h2,rfl⟩))))⟩))))));obtain ⟨B',yD⟩:∃B,B = (p.pg pg).getD zeroPg:=⟨_,rfl⟩;rw [← yD] at Bm;obtain ⟨pa,th,AW⟩:∃(pa:Option Addr) (th:Bool),(th = true∧pa = some ⟨gp pg,0,none⟩∧p.pg pg = some B')∨(th = false∧pa = none∧p.pg pg = none∧B' = zeroPg):=by
  cases h:p.pg pg with
  | some B=>exact ⟨_,true,.inl ⟨rfl,rfl,by rw [yD,h];rfl⟩⟩
  | none=>exact ⟨_,false,.inr ⟨rfl,rfl,rfl,by rw [yD,h];rfl⟩⟩
 have pF:=bk AW;have vJ:=bk (show ∀W,Chg [] W2 W→(Instr.lookup 110 (.map (some qp)) (.int .i64 pg) true).run Tryz.prog W = .ok (.tuple #[.pointer pa,.bool th]) W from fun W h=>by
  rcases AW with ⟨rfl,rfl,hb⟩ | ⟨rfl,rfl,hb,-⟩
  ·exact fh Tryz.underlying110 Tryz.underlying3 (HP.out W h).mp (by rw [(HP.out W h).hp,hb];rfl) true
  ·exact fg Tryz.underlying110 Tryz.underlying3 (HP.out W h).mp (by rw [(HP.out W h).hp,hb];rfl) (gN W) true)
 have yX:=bk (fun W (h:Chg [] W2 W)=>Ar.rights_at (HP.out W h).ar hP.sp pg);clear hI hO hl hv hX tD hp hP mI pA lV lD lZ kI kJ e2 e3 e4 hx AW yD sI qP hk t1;obtain ⟨c0,-,-,-,-,c5,c6,-,-,-,-,-,l3,-⟩:=ay (lI.out W2 (av _ _));clear c0 c6;go_enter Tryz.func69,Tryz.ntmps69;go_upto_region 1 with (first|refine cc rfl _ rfl rfl ?_;try simp only [af]|refine ck rfl rfl ?_;try simp only [af];try rw [← kW.out])
 rw [← HE.out.2.2,← HE.out.2.1,← HE.out.1];go_cut [6,7] from 13 to 18 (fun z6 z7 W=>∃b6 b7,z6 = .pointer (some ⟨b6,0,none⟩)∧z7 = .pointer (some ⟨b7,0,none⟩)∧Blk W b6 3 #[.int .i64 pg]∧Blk W b7 3 #[.int .i64 (an:Nat)]∧Chg [] W2 W∧W2.heap.size≤b6∧W2.heap.size≤b7)
 case first =>
  refine mc [0,5,0,0,5,0,6,6,6,3] [none,none,none,none,none,none,none,none,none,none] [[0,1,2,3,4,5,6,7,8,9],[0,1,2,3,4,5,7,6,8,9]] (fun W=>Chg [] W2 W) (by kernel_rfl) (by kernel_rfl) (by kernel_rfl) (by kernel_rfl) (fun L9 qO=>?_);have hS:Chg [] W2 W2.drew:=(av [] W2).drew;generalize W2.drew = W0 at hS ⊢;simp only [List.mem_cons,List.mem_nil_iff,or_false] at qO;rcases qO with rfl | rfl
  ·simp only [fv,List.filterMap_cons,List.filterMap_nil,List.getElem?_cons_succ,List.getElem?_cons_zero];go_wp2_with (first|refine ca 3 _ rfl rfl (fun w' kK=>dg Tryz.underlying3 (ay (lI.out w' kK)).2.2.2.2.2.1) hS ?_|refine cdA fun K U=>?_|refine bn fun K U=>?_;go_simp|refine bq ?_);(refine cd hS fun K U=>?_);go_simp;refine U _ _ (hS.alloc _) ?_;clear U K;(refine cd (hS.alloc _) fun K U=>?_);go_simp;refine U _ _ ((hS.alloc _).alloc _) ?_;clear U K;go_wp2_with (first|refine cdA fun K U=>?_|refine bn fun K U=>?_;go_simp|refine bq ?_);(refine cd ((hS.alloc _).alloc _) fun K U=>?_);go_simp;refine U _ _ ((hS.alloc _).alloc _) ?_;clear U K;go_wp2_with (first|refine cdA fun K U=>?_|refine bn fun K U=>?_;go_simp|refine bq ?_);go_meet
   case rel=>exact ⟨_,_,rfl,rfl,((ax W0 3 #[.int .i64 pg]).alloc _),(by have h:=ax (W0.alloc (.cells #[.int .i64 pg] 3)) 3 #[.int .i64 (an:Nat)];rwa [af] at h),(hS.alloc _).alloc _,hS.size,Nat.le_succ_of_le hS.size⟩
  ·simp only [fv,List.filterMap_cons,List.filterMap_nil,List.getElem?_cons_succ,List.getElem?_cons_zero];go_wp2_with (first|refine ca 3 _ rfl rfl (fun w' kK=>dg Tryz.underlying3 (ay (lI.out w' kK)).2.2.2.2.2.1) hS ?_|refine cdA fun K U=>?_|refine bn fun K U=>?_;go_simp|refine bq ?_);(refine cd hS fun K U=>?_);go_simp;refine U _ _ (hS.alloc _) ?_;clear U K;(refine cd (hS.alloc _) fun K U=>?_);go_simp;refine U _ _ ((hS.alloc _).alloc _) ?_;clear U K;go_wp2_with (first|refine cdA fun K U=>?_|refine bn fun K U=>?_;go_simp|refine bq ?_);(refine cd ((hS.alloc _).alloc _) fun K U=>?_);go_simp;refine U _ _ ((hS.alloc _).alloc _) ?_;clear U K;go_wp2_with (first|refine cdA fun K U=>?_|refine bn fun K U=>?_;go_simp|refine bq ?_);go_meet
   case rel=>exact ⟨_,_,rfl,rfl,(by have h:=ax (W0.alloc (.cells #[.int .i64 (an:Nat)] 3)) 3 #[.int .i64 pg];rwa [af] at h),((ax W0 3 #[.int .i64 (an:Nat)]).alloc _),(hS.alloc _).alloc _,Nat.le_succ_of_le hS.size,hS.size⟩
 obtain ⟨b6,b7,rfl,rfl,h6,h7,mJ,AK⟩:=hcut;have zX:=bk AK;clear AK;have H6:=bk h6;have H7:=bk h7;have lL:=bk mJ;have q2:wc.cell? ⟨b2,0,none⟩ = some (.pointer (some ⟨gb pid,0,none⟩)):=by simpa using (oI.out wc mJ).cell 0
 have qA:wc.cell? ⟨gb pid,0,none⟩ = some (.pointer (some ⟨d,0,none⟩)):=by simpa [prc] using (HP.out wc mJ).blk.cell 0
 have q6:wc.cell? ⟨b6,0,none⟩ = some (.int .i64 pg):=by simpa using h6.cell 0
 have l2:=(oI.out wc mJ).lt;have lb:=(HP.out wc mJ).blk.lt;have l6:=h6.lt;obtain ⟨r0,rC⟩:∃z:Int,z = Ar.rt p.rl pg:=⟨_,rfl⟩;have pZ:Ar.hasB p.rl pg = decide (r0≠0):=by rw [rC];rfl
 have BH:=(HP.out wc mJ).sp.g pg;rw [← rC] at Bm yX BH;rw [pZ] at yX;have xB:=bk BH;clear h6 h7 mJ rC pZ BH c5 l3 rJ mV Dd;go_upto_region 2 with (fail)
 refine km [1,0,0,1,1,3,0,0,0,0,0] ?_;go_wp2_with (first|refine dy fun K U=>?_;go_simp;refine (yX.out _ lL.out.drew).mono ?_;rintro e W3 ⟨rfl,kM⟩;refine U _ _ ?_;clear U K;have kL:=bk (lL.out.drew.stay kM);have FV:=bk (H6.out.drew.chg kM ab);have Dk:=bk (H7.out.drew.chg kM ab);obtain ⟨c0,-,-,-,-,-,c6,-,-,-,-,-,l3,-⟩:=ay (lI.out W3 kL.out);rw [HK.out] at c0;clear kM q2 qA q6 l2 lb l6|refine cdA fun K U=>?_|refine bn fun K U=>?_;go_simp|refine bq ?_);go_cut [11,12] from 31 to 39 (fun z11 z12 W=>∃b11,z11 = .pointer (some ⟨b11,0,none⟩)∧z12 = .bool th∧Blk W b11 115 #[.pointer pa]∧Chg [] W3 W∧W3.heap.size≤b11)
 case first =>
  clear c0 c6 l3;refine rgt [5,0,0,5,5,5,0,0,0,6,3,0] [none,none,none,none,none,none,none,none,none,none,none,none] (fun W=>Chg [] W3 W) ?_;have hS:Chg [] W3 W3.drew:=(av [] W3).drew;generalize W3.drew = W0 at hS ⊢;go_wp2_with (first|refine ca 103 _ rfl rfl (fun w' kK=>jc Tryz.underlying103 (by simpa using (oI.out w' (kL.out.stay kK)).cell 0)) hS ?_|refine ca 110 _ rfl rfl (fun w' kK=>gy Tryz.underlying110 (by simpa [prc] using (HP.out w' (kL.out.stay kK)).blk.cell 1)) hS ?_|refine ca 3 _ rfl rfl (fun w' kK=>dg Tryz.underlying3 (by simpa using (FV.out.chg kK ab).cell 0)) hS ?_|refine sk 110 _ _ true rfl rfl rfl (fun w' kK=>vJ.out w' (kL.out.stay kK)) hS ?_|refine cdA fun K U=>?_|refine bn fun K U=>?_;go_simp|refine bq ?_);(refine cd hS fun K U=>?_);go_simp;refine U _ _ (hS.alloc _) ?_;clear U K;go_wp2_with (first|refine cdA fun K U=>?_|refine bn fun K U=>?_;go_simp|refine bq ?_);go_meet
  case rel=>exact ⟨_,rfl,rfl,ax W0 _ _,hS.alloc _,hS.size⟩
 obtain ⟨b11,rfl,rfl,nZ,mJ,yJ⟩:=hcut;have Dz:=bk yJ;have HGE:=bk (show w.heap.size≤b11∧w.heap.size≤b7∧w.heap.size≤b6 from ⟨au (au lE.out.size kL.out.size) yJ,au lE.out.size zX.out.2,au lE.out.size zX.out.1⟩);have zJ:=bk nZ;have Dv:=bk (kL.out.stay mJ);have Dw:=bk mJ;clear nZ mJ yJ c0 c6 l3;go_upto_if 41 with (fail)
 go_cut [] from 41 to 42 (fun W=>∃pb,Blk W b11 115 #[.pointer (some ⟨pb,0,none⟩)]∧PgB W pb B'∧Chg [] W3 W∧((∃B,p.pg pg = some B∧pb = gp pg)∨(p.pg pg = none∧w.heap.size≤pb)))
 case first =>
  have l11:=zJ.out.lt;have f11:=zJ.out.frozen;rcases pF.out with ⟨ht,hv,hb⟩ | ⟨ht,hv,hb,hz⟩
  ·subst ht;have Dj:=bk (show Blk wc b11 115 #[.pointer (some ⟨gp pg,0,none⟩)] by rw [← hv];exact zJ.out);have Ai:=bk ((HP.out wc Dv.out).pg pg B' hb);have pK:=bk (show (∃B,p.pg pg = some B∧gp pg = gp pg)∨(p.pg pg = none∧w.heap.size≤gp pg) from .inl ⟨_,hb,rfl⟩);clear hv hb;go_wp2_with fail;go_meet
   case rel=>exact ⟨_,Dj.out,Ai.out,Dw.out,pK.out.imp (fun ⟨B,h,_⟩=>⟨B,h,rfl⟩) id⟩
  ·subst ht;have HZ:=bk hz;have pK:=bk (show (∃B,p.pg pg = some B∧wc.heap.size = gp pg)∨(p.pg pg = none∧w.heap.size≤wc.heap.size) from .inr ⟨hb,au lE.out.size Dv.out.size⟩);have q11:wc.cell? ⟨b11,0,none⟩ = some (.pointer pa):=(by simpa using zJ.out.cell 0);clear hv hb hz;go_wp2_with (first|refine rn rfl rfl ?_;try go_simp);go_meet
   case rel =>
    refine ⟨wc.heap.size,(Blk.set_ zJ.out 0 _).alloc _,?_,(Dw.out.setCell (p:=⟨b11,0,none⟩) (.inr Dz.out) _).alloc _,pK.out⟩;have h:=PgB.new (wc.setCell ⟨b11,0,none⟩ (.pointer (some ⟨wc.heap.size,0,none⟩)));rw [oy] at h;rw [HZ.out];exact h
 obtain ⟨pb,sR,sY,wM,Be⟩:=hcut;have pK:=bk Be;have vV:=bk sY;have tG:=bk wM;have xW:=bk (kL.out.stay wM);have vS:=bk sR;have oO:=bk (fun e W=>li e W);have HR:=bk (show ∀(R:Rs) W W7,Chg [] W2 W→Chg [b4] W W7→(R,(none:Option Mo)) = (if r0 = 0 then (bw 7,none) else if r0 < 2 then (bw 190,none) else (bw 0,some { M with pr:=upd M.pr pid (some { p with pg:=upd p.pg pg (some (di B' an x.l)) }) }))→R.l = []→AnsR w W7 m O X ((dt p x).1,(dt p x).2.map fun q=>{ M with pr:=upd M.pr pid (some q) }) (.returned (.tuple #[.agg (rsc R zV),.nilFunc]))∧Chg [] w W7 from fun R W W7 h1 h2 h3 h4=>by
  rw [Bm.out,← h3]
  refine ⟨⟨none,0,0,.nilFunc,rfl,?_,(fun _ h=>(cw h).elim),rfl⟩,(lE.out.stay h1).trans h2 (fun y hy=>.inr (by obtain rfl:=aa hy;have:=HE.out;omega))⟩
  show RB W7 (.slice none 0 0) R.l
  rw [h4]
  exact RE.nil _ _ _ _ _)
 have HS:=bk (show ∀W W7,Chg [] W2 W→Chg [] wc W→Chg [b4] W W7→XB W b4 zRs zV→(bw 0,some { M with pr:=upd M.pr pid (some { p with pg:=upd p.pg pg (some (di B' an x.l)) }) }) = (if r0 = 0 then (bw 7,none) else if r0 < 2 then (bw 190,none) else (bw 0,some { M with pr:=upd M.pr pid (some { p with pg:=upd p.pg pg (some (di B' an x.l)) }) }))→AnsR w W7 m O X ((dt p x).1,(dt p x).2.map fun q=>{ M with pr:=upd M.pr pid (some q) }) (.returned (.tuple #[.agg (rsc (bw 0) zV),.func (.func 99) #[] #[.pointer (some ⟨b11,0,none⟩),.pointer (some ⟨b7,0,none⟩),.pointer (some ⟨b3,0,none⟩),.pointer (some ⟨b2,0,none⟩),.pointer (some ⟨b6,0,none⟩)]]))∧Chg [] w W7 from fun W W7 h1 h0 h2 h4 h3=>by
  rw [Bm.out,← h3]
  have Hv:Chg [] w W7:=(lE.out.stay h1).trans h2 (fun y hy=>.inr (by obtain rfl:=aa hy;have:=HE.out;omega))
  refine ⟨⟨none,0,0,_,rfl,RE.nil _ _ _ _ _,(fun _ h=>(cw h).elim),_,_,rfl,pn Tryz.func99 (by kernel_rfl) (by kernel_rfl),fun G Z hG hZ=>?_⟩,Hv⟩
  have k2:Chg [b4] wc W7:=(h0.up [b4]).and_ h2
  have m11:=(vS.out.chg k2 (by simp;exact Blk.ne_ (vS.out.chg h0 ab) h4 (by decide))).chg hZ (hG.new HGE.out.1)
  have m7:=((Dk.out.chg (tG.out.stay h0) ab).chg h2 (by simp;exact Blk.ne_ (Dk.out.chg (tG.out.stay h0) ab) h4 (by decide))).chg hZ (hG.new HGE.out.2.1)
  have m6:=((FV.out.chg (tG.out.stay h0) ab).chg h2 (by simp;exact Blk.ne_ (FV.out.chg (tG.out.stay h0) ab) h4 (by decide))).chg hZ (hG.new HGE.out.2.2)
  have m3:KB Z b3 x v:=aw (aw (lI.out W h1) h2 (by simp;exact Blk.ne_ (lI.out W h1) h4 (by decide))) hZ (hG.new (by have:=HE.out;omega))
  have m2:=((oI.out W h1).chg h2 (by simp;exact Blk.ne_ (oI.out W h1) h4 (by decide))).chg hZ (hG.new (by have:=HE.out;omega))
  have mp:PgB Z pb B':=⟨((vV.out.blk.chg h0 ab).chg h2 (by simp;exact Blk.ne_ (vV.out.blk.chg h0 ab) h4 (by decide))).chg hZ (fun hm=>(pK.out.elim (fun h=>(hG pb hm).2.1 (uT.out pb h)) (fun h=>hG.new h.2 hm))),vV.out.len,vV.out.b8⟩
  refine (sO.out Z W7 G hG Hv hZ b11 b7 b3 b2 b6 pb B' pK.out mp m11 m7 m3 m2 m6).mono ?_
  rintro e W' ⟨rfl,k1,O',k3,k4⟩
  have hw:w.heap.size≤pb∨(∃B,p.pg pg = some B∧pb = gp pg):=pK.out.symm.imp (fun h=>h.2) id
  obtain ⟨L,g1,g2⟩:=k1
  exact ⟨rfl,⟨L,g1,fun k hk=>(g2 k hk).imp (fun h=>HEO.out k pb h hw) id⟩,O',k3,fun k hk=>HEO.out k pb (k4 k hk) hw⟩)
 obtain ⟨c0,-,-,-,-,-,c6,-,-,-,-,-,l3,-⟩:=ay (lI.out wc xW.out);rw [HK.out] at c0;have lF:=bk (bf lG.out xW.out);clear sR sY wM Be vJ yX kL Dv Dw H6 pK sO HEO;rcases (by have:=xB.out;omega:r0 = 0∨r0 = 1∨r0 = 2∨r0 = 3) with rfl | rfl | rfl | rfl
 ·go_wp2_with fail;refine (oO.out _ _).mono ?_;rintro e W6 ⟨rfl,kF⟩;have qW:=bk (bf lF.out kF);have mA:=bk (xW.out.stay kF);clear kF;go_wp2_with (first|refine bu (b:=b4) (y:=bw 7) (u:=zV) rfl _ _ rfl rfl rfl rfl qW.out ?_;intro W7 h7 kN);exact bodyPost_ret (v:=.tuple #[.agg (rsc (bw 7) zV),.nilFunc]) (ci (p:=4) (q:=5) rfl _ rfl h7) rfl (HR.out (bw 7) _ W7 mA.out kN rfl rfl)
 ·have hb:bits BinOp.and .u8 1 2 = 0:=by decide
  go_wp2_with fail;refine (oO.out _ _).mono ?_;rintro e W6 ⟨rfl,kF⟩;have qW:=bk (bf lF.out kF);have mA:=bk (xW.out.stay kF);clear kF;go_wp2_with (first|refine bu (b:=b4) (y:=bw 190) (u:=zV) rfl _ _ rfl rfl rfl rfl qW.out ?_;intro W7 h7 kN);exact bodyPost_ret (v:=.tuple #[.agg (rsc (bw 190) zV),.nilFunc]) (ci (p:=4) (q:=5) rfl _ rfl h7) rfl (HR.out (bw 190) _ W7 mA.out kN rfl rfl)
 ·have hb:bits BinOp.and .u8 2 2 = 2:=by decide
  go_wp2_with fail;refine (oO.out _ _).mono ?_;rintro e W6 ⟨rfl,kF⟩;have qW:=bk (bf lF.out kF);have mA:=bk (xW.out.stay kF);have Dt:=bk kF;clear kF;go_wp2_with (first|refine bu (b:=b4) (y:=bw 0) (u:=zV) rfl _ _ rfl rfl rfl rfl qW.out ?_;intro W7 h7 kN);exact bodyPost_ret (v:=.tuple #[.agg (rsc (bw 0) zV),.func (.func 99) #[] #[.pointer (some ⟨b11,0,none⟩),.pointer (some ⟨b7,0,none⟩),.pointer (some ⟨b3,0,none⟩),.pointer (some ⟨b2,0,none⟩),.pointer (some ⟨b6,0,none⟩)]]) (ci (p:=4) (q:=5) rfl _ rfl h7) rfl (HS.out _ W7 mA.out Dt.out kN qW.out rfl)
 ·have hb:bits BinOp.and .u8 3 2 = 2:=by decide
  go_wp2_with fail;refine (oO.out _ _).mono ?_;rintro e W6 ⟨rfl,kF⟩;have qW:=bk (bf lF.out kF);have mA:=bk (xW.out.stay kF);have Dt:=bk kF;clear kF;go_wp2_with (first|refine bu (b:=b4) (y:=bw 0) (u:=zV) rfl _ _ rfl rfl rfl rfl qW.out ?_;intro W7 h7 kN);exact bodyPost_ret (v:=.tuple #[.agg (rsc (bw 0) zV),.func (.func 99) #[] #[.pointer (some ⟨b11,0,none⟩),.pointer (some ⟨b7,0,none⟩),.pointer (some ⟨b3,0,none⟩),.pointer (some ⟨b2,0,none⟩),.pointer (some ⟨b6,0,none⟩)]]) (ci (p:=4) (q:=5) rfl _ rfl h7) rfl (HS.out _ W7 mA.out Dt.out kN qW.out rfl)
theorem free_do {b1 b2:Nat} {x:Cl} (h:MMem w m M O) (h1:Blk w b1 30 #[.pointer (some ⟨m,0,none⟩)]) (h2:KB w b2 x v) :
  Calls Tryz.prog 93 #[.pointer (some ⟨b1,0,none⟩),.pointer (some ⟨b2,0,none⟩)] w fun e W'=>e = .returned (.tuple #[])∧CP O w W'∧∃O',MMem W' m { M with ob:=upd M.ob x.h none } O'∧∀k,O' k→O k∨w.heap.size≤k:=by
 obtain ⟨bp,bo,be,fp,fo,fe,gb,GF,ov,hI,hO,hl⟩:=h;have nD:=bk (fun W (hc:Chg [bo] w W)=>@free_end w W m M O bp bo be fp fo fe gb GF ov hI hO hl x.h hc);have q1:w.cell? ⟨b1,0,none⟩ = some (.pointer (some ⟨m,0,none⟩)):=by simpa using h1.cell 0
 obtain ⟨-,-,-,-,-,-,-,-,-,-,c10,-,cl,-⟩:=ay h2;obtain ⟨-,qo,-,qm,-⟩:=eq hI.blk;have l1:=h1.lt;have Fi:=bk (show MapB w.drew bo .u64 fo from hI.mo);clear hI hO hl h1 h2;go_enter Tryz.func93,Tryz.ntmps93;refine rgn7 [1,0,0,1,0,1,3] ?_;go_wp2_with (first|refine dy fun K U=>?_;refine pc _ _ rfl Tryz.underlying59 Tryz.underlying37 rfl rfl Fi.out ?_;intro W5 h5 kE;refine U _ _ ?_;clear U K|refine cdA fun K U=>?_|refine bn fun K U=>?_;go_simp|refine bq ?_);go_end0;exact ⟨rfl,nD.out W5 ((av [bo] w).drew.and_ kE) h5⟩
theorem bV {α:Type} {L:List α} {off n a:Nat} {cs:List α} (h1:off+n≤L.length) (h2:a+k≤n) (h3:cs.length = k) :
  ((L.take (off+a) ++ cs ++ L.drop (off+a+k)).drop off).take n = ((L.drop off).take n).take a ++ cs ++ ((L.drop off).take n).drop (a+k):=by
 refine List.ext_getElem? fun i=>?_;simp only [List.getElem?_take,List.getElem?_drop,List.getElem?_append,List.length_append,List.length_take,List.length_drop];have e1:min (off+a) L.length = off+a:=by omega
 have e2:min a (min n (L.length - off)) = a:=by omega
 rw [e1,e2,h3];by_cases h4:i < n
 ·rw [ah h4];by_cases h5:i < a
  ·rw [ah (show off+i < off+a+k by omega),ah (show off+i < off+a by omega),ah (show off+i < off+a by omega),ah (show i < a+k by omega),ah h5,ah h5,ah h4]
  ·by_cases h6:i < a+k
   ·rw [ah (show off+i < off+a+k by omega),ag (show ¬ off+i < off+a by omega),ah h6,ag h5];congr 1;omega
   ·rw [ag (show ¬ off+i < off+a+k by omega),ag h6,ah (show a+k+(i - (a+k)) < n by omega)];congr 1;omega
 ·rw [ag h4,ag (show ¬ i < a+k by omega),ag (show ¬ a+k+(i - (a+k)) < n by omega)]
theorem RE.sub {g off n c at_:Nat} (h:RB w (.slice (some ⟨g,off,none⟩) n c) B) (hn:at_+k≤B.length) (hc:B.length≤c):RB w (.slice (some ⟨g,off+at_,none⟩) k (c - at_)) ((B.drop at_).take k):=by
 have hl:((B.drop at_).take k).length = k:=by rw [List.length_take,List.length_drop];omega
 refine ⟨by rw [fz gk],_,c - at_,by rw [hl],by rw [hl];omega,fun hp=>⟨g,off+at_,rfl,fun j u hu=>?_⟩⟩;rw [hl] at hp;rw [nv,List.getElem?_map,List.getElem?_take] at hu;by_cases hj:j < k
 ·rw [ah hj,List.getElem?_drop] at hu;obtain ⟨_,A,c',e,_,Cj⟩:=h;obtain ⟨g',off',e',nW⟩:=Cj (by omega);rw [e'] at e;injection e with e _ _;injection e with e;injection e with ea eb;subst ea;subst eb;have:=nW (at_+j) u (by rw [nv,List.getElem?_map];exact hu);rwa [Nat.add_assoc]
 ·rw [ag hj] at hu;cases hu
theorem SB.copy {g off n c a:Nat} (h:SB w (.slice (some ⟨g,off,none⟩) n c) B) (hv:RB w v l) (h1:1≤l.length) (hn:a+l.length≤n) :
  ∃w' u,(∀ty,(Builtin.copy_ #[38,38] ty #[.slice (some ⟨g,off+a,none⟩) (n - a) (c - a),v]).run Tryz.prog w = .ok u w')∧SB w' (.slice (some ⟨g,off,none⟩) n c) (di B a l)∧Chg [g] w w':=by
 obtain ⟨A,c',rfl⟩:=RE.form hv;obtain ⟨g',off',rfl⟩:=RE.addr hv (by omega);have BA:(fc ucl l).length = l.length:=by rw [nv,List.length_map]
 obtain ⟨hB,⟨e,_⟩ | ⟨g1,off1,cap,cur,e,hb,h4,h5,h6,h7⟩⟩:=h
 ·cases e
 injection e with e e2 e3;injection e with e;injection e with ea eb;subst ea;subst eb;subst e2;subst e3;rw [nv,List.length_map,Nat.mul_one] at hB;have EI:∀j u,(fc ucl l)[j]? = some u→w.cell? ((⟨g',off',none⟩:Addr).add j) = some u:=fun j u hu=>by
  obtain ⟨_,A',c',e,_,Cj⟩:=hv;obtain ⟨g2,off2,e',hc⟩:=Cj (by omega);rw [e'] at e;injection e with e _ _;injection e with e;injection e with ea eb;subst ea;subst eb;rw [Addr.add_lit];exact hc j u hu
 have kQ:(di B a l).length = B.length:=nz (by omega);refine ⟨_,_,fun ty=>run_copy_row Tryz.prog w _ _ ty 5 g (off+a) (B.length - a) (c - a) ⟨g',off',none⟩ l.length c' cur _ (fc ucl l) Tryz.underlying38 info5s hb (by rw [BA];exact (Nat.min_eq_left (by omega)).symm) EI (by rw [BA];omega) (wv l),?_,(av [g] w).setRow (.inl (by simp)) _⟩;unfold SB SE;rw [kQ];refine ⟨by rw [nv,List.length_map,kQ,Nat.mul_one],.inr ⟨g,off,c,_,rfl,setRow_heap w g cur _ _ _ hb,h4,h5,?_,?_⟩⟩
 ·simp only [List.size_toArray,List.length_append,List.length_take,List.length_drop,Array.length_toList,BA];omega
 ·show List.take (B.length * 1) (List.drop off (cur.toList.take (off+a) ++ fc ucl l ++ cur.toList.drop (off+a+(fc ucl l).length))) = _;have h9:off+B.length≤cur.toList.length:=by simp only [Array.length_toList];omega
  have mX:a+l.length≤B.length:=hn;rw [BA,Nat.mul_one,bV h9 mX BA];rw [Nat.mul_one] at h7;rw [h7];unfold di;simp only [nv,List.map_append,List.map_take,List.map_drop]
theorem poke_do {b6 b3:Nat}
  (hI:MIn w m M bp bo be fp fo fe gb GF ov) (hO:∀k,FMo M m bp bo be GF ov k→O k) (hl:∀k,O k→k < w.heap.size) {x:Cl} {v:Value} {B:List Nat} (hz:M.ob x.h = some B)
  {g off n c an:Nat} (wT:ov x.h = .slice (some ⟨g,off,none⟩) n c) (h6:Blk w b6 38 #[.slice (some ⟨g,off,none⟩) n c]) (h3:KB w b3 x v) (hv:RB w v x.l) (qP:x.a = (an:Nat)) (h1:1≤x.l.length) (hn:an+x.l.length≤B.length) (tD:∀y∈x.l,y < 256) :
  Calls Tryz.prog 94 #[.pointer (some ⟨b6,0,none⟩),.pointer (some ⟨b3,0,none⟩)] w fun e W'=>e = .returned (.tuple #[])∧CP O w W'∧∃O',MMem W' m { M with ob:=upd M.ob x.h (some (di B an x.l)) } O'∧∀k,O' k→O k∨w.heap.size≤k:=by
 have zG:=hI.ob x.h B hz;rw [wT] at zG;have hnB:n = B.length∧n≤c:=by
  obtain ⟨A,c',e⟩:=SE.form zG.1;obtain ⟨A2,c2,e2,h4,_⟩:=Sl.cap_le zG.1;injection e with _ e _;injection e2 with _ e3 e4;omega
 have nD:=bk (fun W (hc:Chg (own (ov x.h)) w W) (hS:SB W (ov x.h) (di B an x.l))=>@poke_end w W m M O bp bo be fp fo fe gb GF ov hI hO hl x.h B hz an x.l hn tD hc hS);rw [wT] at nD;obtain ⟨W5,u5,nL,Cd,kE⟩:=SB.copy (w:=w.drew) (show SB w.drew (.slice (some ⟨g,off,none⟩) n c) B from zG.1) (show RB w.drew v x.l from hv) h1 (show an+x.l.length≤n by omega);have q6:w.cell? ⟨b6,0,none⟩ = some (.slice (some ⟨g,off,none⟩) n c):=by simpa using h6.cell 0
 obtain ⟨-,-,-,-,-,c5,-,-,-,-,-,q3,l3,-⟩:=ay h3;rw [qP] at c5;have l6:=h6.lt;have n1:(0:Int)≤(an:Int):=by omega
 have n2:(an:Int)≤(n:Int):=by omega
 have n3:¬ (an:Int) = (n:Int):=by omega
 have n4:¬ an = n:=by omega
 have n5:¬ (an:Int) = (c:Int):=by omega
 have n6:¬ an = c:=by omega
 have n7:(n:Int)≤(c:Int):=by omega
 have pJ:=bk nL;have oB:=bk Cd;have kU:=bk kE;clear hI hO hl hz wT h6 h3 hv qP h1 hn tD zG hnB nL Cd kE;go_enter Tryz.func94,Tryz.ntmps94;refine rgn7 [1,0,1,0,0,1,3] ?_;go_wp2_with (first|refine dy fun K U=>?_;refine wd _ _ rfl rfl rfl pJ.out ?_;refine U _ _ ?_;clear U K|refine cdA fun K U=>?_|refine bn fun K U=>?_;go_simp|refine bq ?_);go_end0;exact ⟨rfl,nD.out W5 ((((av [] w).drew).then_ (kU.out)).mono (fun y hy=>.inl (by simpa [fd] using hy))) oB.out⟩
theorem find_pid {pid:Int} (h1:1≤pid∧pid≤8) (hq:∀q∈pids,q < pid→(M.pr q).isNone = false) (hp:M.pr pid = none):jf M = (⟨0,pid.toNat,[]⟩,some { M with pr:=upd M.pr pid (some jv) }):=by
 have hf:(pids.find? fun p=>(M.pr p).isNone) = some pid:=by
  rcases (by omega:pid = 1∨pid = 2∨pid = 3∨pid = 4∨pid = 5∨pid = 6∨pid = 7∨pid = 8) with rfl | rfl | rfl | rfl | rfl | rfl | rfl | rfl
  all_goals
   simp only [pids,List.mem_cons,ab,or_false,forall_eq_or_imp,forall_eq] at hq
   simp [pids,List.find?_cons,hp,hq]
 unfold jf;rw [hf]
theorem jE {pid:Nat} (h1:1≤pid∧pid≤8) (hq:∀q∈pids,q < (pid:Int)→(M.pr q).isNone = false) (hp:M.pr pid = none):jf M = (⟨0,pid,[]⟩,some { M with pr:=upd M.pr pid (some jv) }):=by have:=find_pid (pid:=(pid:Int)) (by omega) hq hp;rwa [Int.toNat_natCast] at this
theorem jD (hq:∀q∈pids,q < 9→(M.pr q).isNone = false):jf M = (bw 9,none):=by
 have hf:(pids.find? fun p=>(M.pr p).isNone) = none:=by rw [List.find?_eq_none];intro q hqm;have:=hq q hqm (by simp [pids] at hqm;omega);rw [this];decide
 unfold jf;rw [hf]
def tj (v:Value) (w:World):Int:=match v with
 | .pointer (some a)=>intOf ((w.cell? a).getD undef)
 | _=>0
theorem jZ (h:MMem w m M O) :
  Calls Tryz.prog 63 #[.pointer (some ⟨m,0,none⟩)] w fun e w'=>AnsR w w' m O X (jf M) e∧Chg [] w w':=by
 obtain ⟨bp,bo,be,fp,fo,fe,gb,GF,ov,hI,hO,hl⟩:=h;have HM:=bk (show MMem w m M O from ⟨bp,bo,be,fp,fo,fe,gb,GF,ov,hI,hO,hl⟩);have HI:=bk (fun W (hc:Chg [] w W)=>MIn.cp (G:=fun _=>False) hI (CP.of0 hc) (fun _ _ h=>h));clear hI hO hl;have HP9:=bk (fun W=>li 9 W);go_enter Tryz.func63,Tryz.ntmps63;go_wp2_with (first|refine ck rfl rfl ?_;try go_simp);obtain ⟨b1,e1⟩:∃b,b = w.heap.size:=⟨_,rfl⟩;obtain ⟨b2,e2⟩:∃b,b = w.heap.size+1:=⟨_,rfl⟩;have lH:Blk (((w.alloc (Obj.cells #[Value.pointer (some { block:=m,off:=0 })] 30)).alloc (Obj.cells (rsc zRs zV) 40)).alloc (Obj.cells #[Value.int IntKind.i64 1] 3)) b1 30 #[.pointer (some ⟨m,0,none⟩)]:=by rw [e1];exact ((ax w _ _).alloc _).alloc _
 have lV:XB (((w.alloc (Obj.cells #[Value.pointer (some { block:=m,off:=0 })] 30)).alloc (Obj.cells (rsc zRs zV) 40)).alloc (Obj.cells #[Value.int IntKind.i64 1] 3)) b2 zRs zV:=by
  have:=ax (w.alloc (Obj.cells #[Value.pointer (some { block:=m,off:=0 })] 30)) 40 (rsc zRs zV);rw [af,← e2] at this;exact this.alloc _
 have lZ:Blk (((w.alloc (Obj.cells #[Value.pointer (some { block:=m,off:=0 })] 30)).alloc (Obj.cells (rsc zRs zV) 40)).alloc (Obj.cells #[Value.int IntKind.i64 1] 3)) (w.heap.size+1+1) 3 #[.int .i64 1]:=by
  have:=ax ((w.alloc (Obj.cells #[Value.pointer (some { block:=m,off:=0 })] 30)).alloc (Obj.cells (rsc zRs zV) 40)) 3 #[.int .i64 1];rwa [af,af] at this
 have kI:Chg [] w (((w.alloc (Obj.cells #[Value.pointer (some { block:=m,off:=0 })] 30)).alloc (Obj.cells (rsc zRs zV) 40)).alloc (Obj.cells #[Value.int IntKind.i64 1] 3)):=(((av [] w).alloc _).alloc _).alloc _;have tV:=bk lH;have oI:=bk lV;have lG:=bk lZ;have lE:=bk kI;have HE:=bk (ai e1 e2);rw [← e2,← e1];clear lH lV lZ kI;generalize ((w.alloc (Obj.cells #[Value.pointer (some { block:=m,off:=0 })] 30)).alloc (Obj.cells (rsc zRs zV) 40)).alloc (Obj.cells #[Value.int IntKind.i64 1] 3) = W2 at tV oI lG lE ⊢;rw [← e2] at lG;clear e1 e2;go_loopw [4] (fun p wr=>∃(b4 pid:Nat),p = .pointer (some ⟨b4,0,none⟩)∧1≤pid∧pid≤9∧Hid (Blk wr b4 3 #[.int .i64 (pid:Nat)])∧Hid (Chg [] w wr)∧Hid (Blk wr b1 30 #[.pointer (some ⟨m,0,none⟩)])∧Hid (XB wr b2 zRs zV)∧Hid (∀q∈pids,q < (pid:Int)→(M.pr q).isNone = false)∧Hid (b2 < b4)) (fun p wr=>(9 - tj p wr).toNat)
 case atStart=>exact ⟨b2+1,1,rfl,by omega,by omega,lG,lE,tV,oI,bk (fun q hq h=>by simp [pids] at hq;omega),bk (Nat.lt_succ_self _)⟩
 case round =>
  obtain ⟨b4,pid,rfl,h1,h9,lZ,hc,lH,lV,hq,kG⟩:=hrel;have hI:=HI.out wr hc.out;have q1:wr.cell? ⟨b1,0,none⟩ = some (.pointer (some ⟨m,0,none⟩)):=by simpa using lH.out.cell 0
  have q4:wr.cell? ⟨b4,0,none⟩ = some (.int .i64 (pid:Nat)):=by simpa using lZ.out.cell 0
  have qE:=sd (HI.out wr.drew hc.out.drew) pid;obtain ⟨qp,-,-,qm,-⟩:=eq hI.blk;have l4:=lZ.out.lt;have l1:=lH.out.lt;have f4:=lZ.out.frozen;have wU:tj (.pointer (some ⟨b4,0,none⟩)) wr = (pid:Int):=by simp [tj,q4,intOf]
  have yA:=bk wU;clear wU;by_cases h8:pid≤8
  ·have d8:decide ((pid:Int)≤8) = true:=ae (by omega);have hwp:IntKind.u64.wrap (pid:Int) = (pid:Int):=(by rw [IntKind.wrap_u64];omega);have oW:IntKind.i64.wrap ((pid:Int)+1) = (pid:Int)+1:=(by rw [IntKind.wrap_i64];omega);have EZ:=bk (ai h1 h8);cases hp:M.pr pid with
   | some p =>
    rw [hp] at qE;have HP:=bk hp;clear hI h1 h8 h9 hp;go_upto_region 4 with (fail)
    refine rgn7 [1,0,0,1,1,3,0] ?_;go_wp2_with (first|refine cdA fun K U=>?_|refine bn fun K U=>?_;go_simp|refine bq ?_);have hs:=hc.out.size;go_roundw
    case rel =>
     refine ⟨wr.heap.size,pid+1,rfl,by omega,by have:=EZ.out;omega,bk ?_,bk (hc.out.alloc _).drew,bk (lH.out.alloc _).drew,bk (lV.out.alloc _).drew,bk (fun q rJ mV=>?_),bk (Nat.lt_trans kG.out l4)⟩
     ·have h:=(ax wr 3 #[.int .i64 ((pid:Int)+1)]).drew;rw [show ((pid:Int)+1) = ((pid+1:Nat):Int) by omega] at h ⊢;exact h
     ·by_cases hqp:q < (pid:Int)
      ·exact hq.out q rJ hqp
      ·obtain rfl:q = (pid:Int):=(by omega);rw [HP.out];rfl
    case measure =>
     have Em:(wr.alloc (Obj.cells #[Value.int IntKind.i64 ((pid:Int)+1)] 3)).drew.cell? ⟨wr.heap.size,0,none⟩ = some (.int .i64 ((pid:Int)+1)):=(by simp);have e1:tj (.pointer (some ⟨wr.heap.size,0,none⟩)) (wr.alloc (Obj.cells #[Value.int IntKind.i64 ((pid:Int)+1)] 3)).drew = (pid:Int)+1:=(by unfold tj;simp only [Em];rfl);have e2:=yA.out;have e3:=EZ.out;show (9 - tj (.pointer (some ⟨wr.heap.size,0,none⟩)) _).toNat < (9 - tj (.pointer (some ⟨b4,0,none⟩)) _).toNat
     rw [e1,e2];omega
   | none =>
    rw [hp] at qE;have HR:=bk (jE ⟨h1,h8⟩ hq.out hp);have Gi:=bk (fun W (mO:CP (fun k=>¬ O k) w W) (k1:Blk W b1 30 #[.pointer (some ⟨m,0,none⟩)]) (k4:Blk W b4 3 #[.int .i64 (pid:Nat)])=>spawn_do (HM.out.off mO) k1 k4 hp (by omega));have Dq:=bk (br_v pid);have HB2d:=bk (show XB wr.drew b2 zRs zV from lV.out);clear hI h1 h8 h9 hp;go_upto_region 4 with (fail)
    refine rgn7 [1,0,0,1,1,3,0] ?_;go_wp2_with (first|refine cz rfl _ rfl Dq.out ?_ ?_;(focus (simp [Act.eval];done))|refine bu (b:=b2) (y:=⟨0,pid,[]⟩) (u:=zV) rfl _ _ rfl rfl rfl rfl HB2d.out ?_;intro W4 h4 kZ|refine cdA fun K U=>?_|refine bn fun K U=>?_;go_simp|refine bq ?_);refine bodyPost_ret (v:=.tuple #[.agg (rsc ⟨0,pid,[]⟩ zV),.func (.func 91) #[] #[.pointer (some ⟨b1,0,none⟩),.pointer (some ⟨b4,0,none⟩)]]) (ci (p:=2) (q:=3) rfl _ rfl h4) rfl ⟨?_,?_⟩
    ·rw [HR.out];have Hj:Chg [] w W4:=hc.out.drew.trans kZ (fun y hy=>.inr (by obtain rfl:=aa hy;have:=HE.out;omega));have hl:=kG.out;have he:=HE.out;refine ⟨none,0,0,_,rfl,RE.nil _ _ _ _ _,(fun _ h=>(cw h).elim),_,_,rfl,pn Tryz.func91 (by kernel_rfl) (by kernel_rfl),fun F W hF mO=>(Gi.out W (hF.cp Hj mO) ((lH.out.drew.chg kZ (by simp;omega)).chg mO (hF.new (by omega))) ((lZ.out.drew.chg kZ (by simp;omega)).chg mO (hF.new (by omega)))).mono ?_⟩;rintro e W' ⟨rfl,k1,O',k2,k3⟩;exact ⟨rfl,k1.or,O',k2,fun k hk=>(k3 k hk).imp id (fun h=>au (au Hj.size mO.size) h)⟩
    ·exact hc.out.drew.trans kZ (fun y hy=>.inr (by obtain rfl:=aa hy;have:=HE.out;omega))
  ·obtain rfl:pid = 9:=(by omega);have HR:=bk (jD hq.out);clear hI qE;go_wp2_with fail;refine (HP9.out _).mono ?_;rintro e W3 ⟨rfl,kM⟩;have lI:=bk (bf lV.out kM);go_wp2_with (first|refine bu (b:=b2) (y:=bw 9) (u:=zV) rfl _ _ rfl rfl rfl rfl lI.out ?_;intro W4 h4 kZ);refine bodyPost_ret (v:=.tuple #[.agg (rsc (bw 9) zV),.nilFunc]) (ci (p:=2) (q:=3) rfl _ rfl h4) rfl ⟨?_,(hc.out.stay kM).trans kZ (fun y hy=>.inr (by obtain rfl:=aa hy;have:=HE.out;omega))⟩;rw [HR.out];exact ⟨none,0,0,.nilFunc,rfl,RE.nil _ _ _ _ _,(fun _ h=>(cw h).elim),rfl⟩
theorem yx {a:Nat} (h1:a≤1000) (h2:b≤1000):wrap64 ((a:Int)+(b:Int)) = (a:Int)+(b:Int):=by unfold wrap64;omega
theorem tf
  (hI:MIn w m M bp bo be fp fo fe gb GF ov) (hO:∀k,FMo M m bp bo be GF ov k→O k) (hl:∀k,O k→k < w.heap.size) {x:Cl} {v:Value} (hv:RB w v x.l) (hX:x.l≠[]→∀k∈own v,k∈X) (tD:∀y∈x.l,y < 256) (hk:x.k = 11∨x.k = 12∨x.k = 13)
  (hx:x.k≠11→0≤x.a∧x.a≤128∧(x.k = 12→x.l = []∧1≤x.s∧x.s≤128)∧(x.k = 13→x.s = 0∧1≤x.l.length∧x.l.length≤128)) :
  Calls Tryz.prog 65 #[.pointer (some ⟨m,0,none⟩),.agg (clc x v)] w fun e w'=>AnsR w w' m O X (gj M x) e∧Chg [] w w':=by
 obtain ⟨A0,c0,rfl⟩:=RE.form hv;obtain ⟨W2,kJ⟩:∃W2,W2 = ((w.alloc (.cells #[.pointer (some ⟨m,0,none⟩)] 30)).alloc (.cells (clc x (.slice A0 x.l.length c0)) 47)).alloc (.cells (rsc zRs zV) 40):=⟨_,rfl⟩;have kI:Chg [] w W2:=by rw [kJ];exact (((av [] w).alloc _).alloc _).alloc _
 have lV:Blk W2 w.heap.size 30 #[.pointer (some ⟨m,0,none⟩)]:=by rw [kJ];exact ((ax w _ _).alloc _).alloc _
 have lD:KB W2 (w.heap.size+1) x (.slice A0 x.l.length c0):=by
  have:=ax (w.alloc (.cells #[.pointer (some ⟨m,0,none⟩)] 30)) 47 (clc x (.slice A0 x.l.length c0));rw [af] at this;rw [kJ];exact this.alloc _
 have lZ:XB W2 (w.heap.size+1+1) zRs zV:=by
  have:=ax ((w.alloc (.cells #[.pointer (some ⟨m,0,none⟩)] 30)).alloc (.cells (clc x (.slice A0 x.l.length c0)) 47)) 40 (rsc zRs zV);rw [af,af] at this;rw [kJ];exact this
 obtain ⟨b2,e2⟩:∃b,b = w.heap.size:=⟨_,rfl⟩;obtain ⟨b3,e3⟩:∃b,b = w.heap.size+1:=⟨_,rfl⟩;obtain ⟨b4,e4⟩:∃b,b = w.heap.size+1+1:=⟨_,rfl⟩;rw [← e4] at lZ;rw [← e3] at lD;rw [← e2] at lV;have HE:=bk (ai e2 (ai e3 e4));have HI:=bk (fun W (h:Chg [] W2 W)=>hI.stay (kI.stay h));have oI:=bk (fun W (h:Chg [] W2 W)=>lV.chg h ab);have lI:=bk (fun W (h:Chg [] W2 W)=>bh lD h);have lG:=bk lZ;have lE:=bk kI;have kW:=bk kJ;obtain ⟨A6,n6,c6',th,hu⟩:∃(A6:Option Addr) (n6 c6':Nat) (th:Bool),(th = true∧Value.slice A6 n6 c6' = ov x.h∧∃B,M.ob x.h = some B)∨(th = false∧Value.slice A6 n6 c6' = .slice none 0 0∧M.ob x.h = none):=by
  cases h:M.ob x.h with
  | some B =>
   obtain ⟨A,c,e⟩:=SE.form (hI.ob x.h B h).1;exact ⟨A,B.length,c,true,.inl ⟨rfl,e.symm,B,rfl⟩⟩
  | none=>exact ⟨none,0,0,false,.inr ⟨rfl,rfl,rfl⟩⟩
 have HU:=bk hu;have vJ:=bk (show ∀W,Chg [] W2 W→(Instr.lookup 59 (.map (some bo)) (.int .u64 x.h) true).run Tryz.prog W = .ok (.tuple #[.slice A6 n6 c6',.bool th]) W from fun W h=>by
  rcases hu with ⟨rfl,e,B,hb⟩ | ⟨rfl,e,hb⟩ <;> rw [e]
  ·exact fh Tryz.underlying59 Tryz.underlying37 (HI.out W h).mo (by rw [(HI.out W h).ho,hb];rfl) true
  ·exact fg Tryz.underlying59 Tryz.underlying37 (HI.out W h).mo (by rw [(HI.out W h).ho,hb];rfl) (cH W) true)
 have HM:=bk (show MMem w m M O from ⟨bp,bo,be,fp,fo,fe,gb,GF,ov,hI,hO,hl⟩);have HH:=bk (ai hI (ai hO hl));have HV:=bk (ai hv tD);have mN:=bk hX;have HX:=bk hx;have HK:=bk hk;clear hI hO hl hv hX tD lV lD lZ kI kJ e2 e3 e4 hx hk hu;go_enter Tryz.func65,Tryz.ntmps65;go_upto_region 1 with (first|refine cc rfl _ rfl rfl ?_;try simp only [af]|refine ck rfl rfl ?_;try simp only [af];try rw [← kW.out])
 rw [← HE.out.2.2,← HE.out.2.1,← HE.out.1];go_cut [6,7] from 8 to 17 (fun z6 z7 W=>∃b6,z6 = .pointer (some ⟨b6,0,none⟩)∧z7 = .bool th∧Blk W b6 38 #[.slice A6 n6 c6']∧Chg [] W2 W∧W2.heap.size≤b6)
 case first =>
  refine rgt [5,0,0,5,0,5,5,0,0,0,6,3,0] [none,none,none,none,none,none,none,none,none,none,none,none,none] (fun W=>Chg [] W2 W) ?_;have hS:Chg [] W2 W2.drew:=(av [] W2).drew;generalize W2.drew = W0 at hS ⊢;go_wp2_with (first|refine ca 30 _ rfl rfl (fun w' kK=>jc Tryz.underlying30 (by simpa using (oI.out w' kK).cell 0)) hS ?_|refine ca 59 _ rfl rfl (fun w' kK=>gy Tryz.underlying59 (eq (HI.out w' kK).blk).2.1) hS ?_|refine ca 37 _ rfl rfl (fun w' kK=>dg Tryz.underlying37 (ay (lI.out w' kK)).2.2.2.2.2.2.2.2.2.2.1) hS ?_|refine sk 59 _ _ true rfl rfl rfl (fun w' kK=>vJ.out w' kK) hS ?_|refine cdA fun K U=>?_|refine bn fun K U=>?_;go_simp|refine bq ?_);(refine cd hS fun K U=>?_);go_simp;refine U _ _ (hS.alloc _) ?_;clear U K;go_wp2_with (first|refine cdA fun K U=>?_|refine bn fun K U=>?_;go_simp|refine bq ?_);go_meet
  case rel=>exact ⟨_,rfl,rfl,ax W0 _ _,hS.alloc _,hS.size⟩
 obtain ⟨b6,rfl,rfl,h6,mJ,Ig⟩:=hcut;have H6:=bk h6;have lL:=bk mJ;have HG6:=bk Ig;have oO:=bk (fun e W=>li e W);have lF:=bk (bf lG.out mJ);have HR:=bk (show ∀(R:Rs) W7 A n c,Chg [b4] wc W7→(R,(none:Option Mo)) = gj M x→RB W7 (.slice A n c) R.l→(∀k∈own (.slice A n c),O k∨w.heap.size≤k)→AnsR w W7 m O X (gj M x) (.returned (.tuple #[.agg (rsc R (.slice A n c)),.nilFunc]))∧Chg [] w W7 from fun R W7 A n c h2 h3 h4 h5=>by
  rw [← h3]
  exact ⟨⟨A,n,c,.nilFunc,rfl,h4,h5,rfl⟩,(lE.out.stay mJ).trans h2 (fun y hy=>.inr (by obtain rfl:=aa hy;have:=HE.out;omega))⟩)
 obtain ⟨c0',-,-,-,-,c5,c6,-,-,-,-,c11,l3,-⟩:=ay (lI.out wc mJ);clear h6 Ig vJ;rcases HU.out with ⟨rfl,hu,B,hB⟩ | ⟨rfl,hu,hB⟩
 case inr =>
  have HO:=bk (show ((bw 120,none):Rs × Option Mo) = gj M x by unfold gj;rw [hB]);clear hu hB c0' c5 c6 c11 l3 mJ;go_wp2_with fail;refine (oO.out _ _).mono ?_;rintro e W6 ⟨rfl,kF⟩;have qW:=bk (bf lF.out kF);have mA:=bk kF;clear kF;go_wp2_with (first|refine bu (b:=b4) (y:=bw 120) (u:=zV) rfl _ _ rfl rfl rfl rfl qW.out ?_;intro W7 h7 kN);exact bodyPost_ret (v:=.tuple #[.agg (rsc (bw 120) zV),.nilFunc]) (ci (p:=4) (q:=5) rfl _ rfl h7) rfl (HR.out (bw 120) W7 none 0 0 ((mA.out.up [b4]).and_ kN) HO.out (RE.nil _ _ _ _ _) (fun _ h=>(cw h).elim))
 by_cases nZ:x.k = 11
 ·have HO:=bk (show gj M x = (bw 0,some { M with ob:=upd M.ob x.h none }) by unfold gj;rw [hB];simp only [nZ,if_true]);rw [nZ] at c0';clear hu hB c5 c6 c11 mJ nZ;go_wp2_with fail;refine (oO.out _ _).mono ?_;rintro e W6 ⟨rfl,kF⟩;have qW:=bk (bf lF.out kF);have mA:=bk kF;clear kF;go_wp2_with (first|refine bu (b:=b4) (y:=bw 0) (u:=zV) rfl _ _ rfl rfl rfl rfl qW.out ?_;intro W7 h7 kN);have nJ:Chg [b4] wc W7:=(mA.out.up [b4]).and_ kN;have mO:Chg [] w W7:=(lE.out.stay lL.out).trans nJ (fun y hy=>.inr (by obtain rfl:=aa hy;have:=HE.out;omega));have he:=HE.out;refine bodyPost_ret (v:=.tuple #[.agg (rsc (bw 0) zV),.func (.func 93) #[] #[.pointer (some ⟨b2,0,none⟩),.pointer (some ⟨b3,0,none⟩)]]) (ci (p:=4) (q:=5) rfl _ rfl h7) rfl ⟨?_,mO⟩;rw [HO.out];refine ⟨none,0,0,_,rfl,RE.nil _ _ _ _ _,(fun _ h=>(cw h).elim),_,_,rfl,pn Tryz.func93 (by kernel_rfl) (by kernel_rfl),fun G W hG hW=>(free_do (HM.out.off (hG.cp mO hW)) (((oI.out wc lL.out).chg nJ (by simp;omega)).chg hW (hG.new (by omega))) (show KB W b3 x (.slice A0 x.l.length c0) from aw (aw (lI.out wc lL.out) nJ (by simp;omega)) hW (hG.new (by omega)))).mono ?_⟩;rintro e W' ⟨rfl,k1,O',k2,k3⟩;exact ⟨rfl,k1.or,O',k2,fun k hk=>(k3 k hk).imp id (fun h=>au (au mO.size hW.size) h)⟩
 have mP:=((HI.out wc mJ).ob x.h B hB);rw [← hu] at mP;obtain rfl:n6 = B.length:=by
  obtain ⟨_,_,e⟩:=SE.form mP.1;injection e
 obtain ⟨BI,FP,EO,Df⟩:=HX.out nZ;obtain ⟨an,qP⟩:∃n:Nat,x.a = n:=⟨x.a.toNat,by omega⟩;have tL:B.length≤c6':=by
  obtain ⟨A2,c2,e2,h4,_⟩:=Sl.cap_le mP.1;injection e2 with _ _ e4;omega
 have hB8:=mP.2.2;have q6:wc.cell? ⟨b6,0,none⟩ = some (.slice A6 B.length c6'):=by simpa using H6.out.cell 0
 have l6:=H6.out.lt;rcases (show x.k = 12∨x.k = 13 from HK.out.resolve_left nZ) with uD | Cc
 ·obtain ⟨xR,rX,rY⟩:=EO uD;obtain ⟨sn,sA⟩:∃n:Nat,x.s = n:=⟨x.s.toNat,by omega⟩;have FC:∀(ts:Array TypeId) (ty:TypeId) (W:World),(Builtin.max_ ts ty #[.int .i64 (sn:Int),.int .i64 0]).run Tryz.prog W = .ok (.int .i64 (sn:Int)) W:=fun ts ty W=>by
   rw [Ar.run_max];rw [show max (sn:Int) 0 = sn by omega]
  have qF:gj M x = if B.length < an+sn then (bw 2,none) else (⟨0,0,(B.drop an).take sn⟩,none):=by
   have e:max x.s (x.l.length:Int) = sn:=(by rw [xR,sA,List.length_nil];exact Int.max_eq_left (by omega));unfold gj;rw [hB];show (if x.k = 11 then _ else if (B.length:Int) < x.a+max x.s x.l.length then _ else if x.k = 12 then _ else _) = _;rw [ag nZ,e,qP,ah uD];by_cases h:B.length < an+sn
   ·rw [ah h,ah (show (B.length:Int) < (an:Int)+(sn:Int) by omega)]
   ·rw [ag h,ag (show ¬ (B.length:Int) < (an:Int)+(sn:Int) by omega),sA,Int.toNat_natCast,Int.toNat_natCast]
  rw [uD] at c0';rw [qP] at c5;rw [sA] at c6;rw [xR] at c11;have mH:=bk (yx (a:=an) (b:=sn) (by omega) (by omega));have Ix:1≤sn:=by omega
  by_cases kG:B.length < an+sn
  ·rw [ah kG] at qF;have HO:=bk qF.symm;have d1:decide ((B.length:Int) < (an:Int)+(sn:Int)) = true:=ae (by omega);have sM:=mH.out;clear mH hu hB mJ nZ mP BI FP EO Df qP tL hB8 uD xR rX rY sA qF Ix kG;go_wp2_with fail;refine (oO.out _ _).mono ?_;rintro e W6 ⟨rfl,kF⟩;have qW:=bk (bf lF.out kF);have mA:=bk kF;clear kF;go_wp2_with (first|refine bu (b:=b4) (y:=bw 2) (u:=zV) rfl _ _ rfl rfl rfl rfl qW.out ?_;intro W7 h7 kN);exact bodyPost_ret (v:=.tuple #[.agg (rsc (bw 2) zV),.nilFunc]) (ci (p:=4) (q:=5) rfl _ rfl h7) rfl (HR.out (bw 2) W7 none 0 0 ((mA.out.up [b4]).and_ kN) HO.out (RE.nil _ _ _ _ _) (fun _ h=>(cw h).elim))
  ·rw [ag kG] at qF;have HO:=bk qF.symm;have d1:decide ((B.length:Int) < (an:Int)+(sn:Int)) = false:=ac (by omega);obtain ⟨g,off,rfl⟩:=SE.addr mP.1 (show 0 < B.length by omega);have i0:(0:Int)≤(an:Int):=(by omega);have i1:(an:Int)≤(an:Int)+(sn:Int):=(by omega);have i2:(an:Int)+(sn:Int)≤(c6':Int):=(by omega);have i3:¬ (an:Int) = (c6':Int):=(by omega);have i4:¬ an = c6':=(by omega);have zP:=bk (br_l (some ⟨g,off+an,none⟩) sn (c6' - an) ((B.drop an).take sn));have sE:=bk mP;have kR:=bk kG;have Bs:=bk (show ∀k∈own (.slice (some ⟨g,off+an,none⟩) sn (c6' - an)),O k∨w.heap.size≤k from fun k hk=>.inl (HH.out.2.1 k (.inr (.inr (.inr (.inr (.inr ⟨x.h,B,hB,by rw [← hu];exact hk⟩)))))));have Gg:=bk tL;have sM:=mH.out;clear mH hu hB mJ nZ mP BI FP EO Df qP tL hB8 uD xR rX rY sA qF Ix kG;go_wp2_with (first|refine cz rfl _ rfl zP.out ?_ ?_;(focus (simp [Act.eval];done))|refine bu (b:=b4) (y:=⟨0,0,(B.drop an).take sn⟩) (u:=.slice (some ⟨g,off+an,none⟩) sn (c6' - an)) rfl _ _ rfl rfl rfl rfl lF.out ?_;intro W7 h7 kN);have n4:g≠b4:=fun e=>by
    obtain ⟨cur,wL⟩:=Sl.blk sE.out.1 (k:=g) (by rw [fd];exact List.mem_singleton.2 rfl);exact Blk.ne_ wL lF.out (by decide) e
   have kG:=kR.out;have tL:=Gg.out;refine bodyPost_ret (v:=.tuple #[.agg (rsc ⟨0,0,(B.drop an).take sn⟩ (.slice (some ⟨g,off+an,none⟩) sn (c6' - an))),.nilFunc]) (ci (p:=4) (q:=5) rfl _ rfl h7) rfl (HR.out ⟨0,0,(B.drop an).take sn⟩ W7 _ _ _ kN HO.out ?_ (fun k hk=>Bs.out k hk));exact (RE.sub (SE.re sE.out.1) (by omega) (by omega)).chg kN (fun k hk h=>by rw [fd] at hk;simp at hk h;omega)
 ·obtain ⟨rX,vN,Eu⟩:=Df Cc;obtain ⟨ln,Im⟩:∃n:Nat,n = x.l.length:=⟨_,rfl⟩;have FC:∀(ts:Array TypeId) (ty:TypeId) (W:World),(Builtin.max_ ts ty #[.int .i64 0,.int .i64 (ln:Int)]).run Tryz.prog W = .ok (.int .i64 (ln:Int)) W:=fun ts ty W=>by
   rw [Ar.run_max];rw [show max 0 (ln:Int) = ln by omega]
  have qF:gj M x = if B.length < an+ln then (bw 2,none) else (bw 0,some { M with ob:=upd M.ob x.h (some (di B an x.l)) }):=by
   have e:max x.s (x.l.length:Int) = ln:=(by rw [rX,← Im];exact Int.max_eq_right (by omega));have uD:¬ x.k = 12:=(by omega);unfold gj;rw [hB];show (if x.k = 11 then _ else if (B.length:Int) < x.a+max x.s x.l.length then _ else if x.k = 12 then _ else _) = _;rw [ag nZ,e,qP,ag uD];by_cases h:B.length < an+ln
   ·rw [ah h,ah (show (B.length:Int) < (an:Int)+(ln:Int) by omega)]
   ·rw [ag h,ag (show ¬ (B.length:Int) < (an:Int)+(ln:Int) by omega),Int.toNat_natCast]
  rw [Cc] at c0';rw [qP] at c5;rw [rX] at c6;rw [← Im] at c11;have mH:=bk (yx (a:=an) (b:=ln) (by omega) (by omega));by_cases kG:B.length < an+ln
  ·rw [ah kG] at qF;have HO:=bk qF.symm;have d1:decide ((B.length:Int) < (an:Int)+(ln:Int)) = true:=ae (by omega);have sM:=mH.out;clear mH hu hB mJ nZ mP BI FP EO Df qP tL hB8 Cc rX vN Eu Im qF kG;go_wp2_with fail;refine (oO.out _ _).mono ?_;rintro e W6 ⟨rfl,kF⟩;have qW:=bk (bf lF.out kF);have mA:=bk kF;clear kF;go_wp2_with (first|refine bu (b:=b4) (y:=bw 2) (u:=zV) rfl _ _ rfl rfl rfl rfl qW.out ?_;intro W7 h7 kN);exact bodyPost_ret (v:=.tuple #[.agg (rsc (bw 2) zV),.nilFunc]) (ci (p:=4) (q:=5) rfl _ rfl h7) rfl (HR.out (bw 2) W7 none 0 0 ((mA.out.up [b4]).and_ kN) HO.out (RE.nil _ _ _ _ _) (fun _ h=>(cw h).elim))
  ·rw [ag kG] at qF;have HO:=bk qF;have d1:decide ((B.length:Int) < (an:Int)+(ln:Int)) = false:=ac (by omega);obtain ⟨g,off,rfl⟩:=SE.addr mP.1 (show 0 < B.length by omega);have Gi:=bk (fun (W:World) (w':World) (G:List Nat) (hG:Off w O X G) (hc:Chg [] w w') (hW:Chg G w' W) (k6:Blk W b6 38 #[.slice (some ⟨g,off,none⟩) B.length c6']) (k3:KB W b3 x (.slice A0 x.l.length c0))=>poke_do (HH.out.1.off HH.out.2.1 (hG.cp hc hW)) HH.out.2.1 (fun k hk=>al (HH.out.2.2 k hk) (hG.cp hc hW).size) hB hu.symm k6 k3 ((HV.out.1.stay hc).chg hW (fun k hk=>hG.out (mN.out (fun h=>by rw [h] at vN;simp at vN) k hk))) qP vN (by omega) HV.out.2);have xX:=bk Im;have sM:=mH.out;clear mH hu hB mJ nZ mP BI FP EO Df qP tL hB8 Cc rX vN Eu Im qF kG;go_wp2_with fail;refine (oO.out _ _).mono ?_;rintro e W6 ⟨rfl,kF⟩;have qW:=bk (bf lF.out kF);have mA:=bk kF;clear kF;go_wp2_with (first|refine bu (b:=b4) (y:=bw 0) (u:=zV) rfl _ _ rfl rfl rfl rfl qW.out ?_;intro W7 h7 kN);have nJ:Chg [b4] wc W7:=(mA.out.up [b4]).and_ kN;have mO:Chg [] w W7:=(lE.out.stay lL.out).trans nJ (fun y hy=>.inr (by obtain rfl:=aa hy;have:=HE.out;omega));have he:=HE.out;refine bodyPost_ret (v:=.tuple #[.agg (rsc (bw 0) zV),.func (.func 94) #[] #[.pointer (some ⟨b6,0,none⟩),.pointer (some ⟨b3,0,none⟩)]]) (ci (p:=4) (q:=5) rfl _ rfl h7) rfl ⟨?_,mO⟩;rw [HO.out];refine ⟨none,0,0,_,rfl,RE.nil _ _ _ _ _,(fun _ h=>(cw h).elim),_,_,rfl,pn Tryz.func94 (by kernel_rfl) (by kernel_rfl),fun G W hG hW=>(Gi.out W W7 G hG mO hW ((H6.out.chg nJ (by simp;exact Blk.ne_ H6.out lF.out (by decide))).chg hW (hG.new (au lE.out.size HG6.out))) (show KB W b3 x (.slice A0 x.l.length c0) from aw (aw (lI.out wc lL.out) nJ (by simp;omega)) hW (hG.new (by omega)))).mono ?_⟩;rintro e W' ⟨rfl,k1,O',k2,k3⟩;exact ⟨rfl,k1.or,O',k2,fun k hk=>(k3 k hk).imp id (fun h=>au (au mO.size hW.size) h)⟩
theorem zero39:∀w,(zeroValue 45).run Tryz.prog w = .ok (.agg #[.int .u8 0,.int .u8 0]) w:=by
 have h:(Tryz.prog.info? 45).map (fun i=>(i.zero,i.size)) = some (some (.agg #[.int .u8 0,.int .u8 0]),2):=by kernel_rfl
 exact (zero_of_info h).1
theorem kv:(Tryz.prog.info? 45).map (·.size) = some 2:=by kernel_rfl
abbrev PolB (w:World) (b:Nat) (k m:Int):Prop:=Blk w b 45 #[.int .u8 k,.int .u8 m]
section
variable {ops:Array Oper} {rest:List Oper} {o:Oper} {a:Act} {w:World} {Q:Exit→Act→World→Prop} {b:Nat} {k m k' m':Int}
theorem dJ (w:World):(Instr.alloc 45 true (.tuple #[])).run Tryz.prog w = .ok (.pointer (some ⟨w.heap.size,0,none⟩)) (w.alloc (.cells #[.int .u8 0,.int .u8 0] 45)):=by simp [Instr.alloc,Sem.run_bind,zero39,newVar,newRow,run_newObj_alloc,Value.cells]
theorem fk (hg:o.guard = none) (ho:o.op = .alloc 45)
  (h:∀w',PolB w' w.heap.size 0 0→Chg [] w w'→wpList Tryz.prog ops Q rest (a.put o.dst (.pointer (some ⟨w.heap.size,0,none⟩))) w'):wpList Tryz.prog ops Q (o :: rest) a w :=
 Great.wpList_runTo hg _ rfl _ _ (by unfold execOp;simp only [ho,Sem.run_bind,dJ,Sem.run_pure,Result.andThen_ok]) (h _ (ax w _ _) ((av [] w).alloc _))
theorem ej (hg:o.guard = none) (z t:Operand) (ho:o.op = .store 45 z t) (hx:a.eval z = .pointer (some ⟨b,0,none⟩)) (hy:a.eval t = .agg #[.int .u8 k',.int .u8 m']) (h0:PolB w b k m)
  (h:∀w',PolB w' b k' m'→Chg [b] w w'→wpList Tryz.prog ops Q rest (a.put o.dst undef) w'):wpList Tryz.prog ops Q (o :: rest) a w :=
 wpList_store_row hg 45 z t ho b _ hx hy 45 _ h0 kv rfl (by simp [show ∀k z,(Value.int k z).oneCell' = true from fun _ _=>rfl]) (h _ (setRow_heap w b _ _ _ _ h0) ((av [b] w).setRow (.inl (by simp)) _))
theorem zo (hg:o.guard = none) (z:Operand) (ho:o.op = .load 45 z) (hx:a.eval z = .pointer (some ⟨b,0,none⟩)) (h0:PolB w b k m) (h:wpList Tryz.prog ops Q rest (a.put o.dst (.agg #[.int .u8 k,.int .u8 m])) w):wpList Tryz.prog ops Q (o :: rest) a w :=
 wpList_load_row hg 45 z ho b hx 45 _ (0,0) _ h0 Tryz.underlying45 rfl kv h
end
theorem of_pr {p:Pr} {d:Nat} {FA:List Nat} {qp qo:Nat} {gp' go':Int→Option Value} {gp:Int→Nat} (hP:PIn w b p d FA qp qo gp' go' gp) (q:Int) :
  Calls Tryz.prog 49 #[.pointer (some ⟨b,0,none⟩),.int .i64 q] w fun e w'=>e = .returned (.agg #[.int .u8 (ku p q).1,.int .u8 (ku p q).2])∧Chg [] w w':=by
 have HP:=bk (fun W (h:Chg [] w W)=>hP.cp (CP.of0 (F:=fun _=>False) h) (fun _ _ h=>h));have Ah:=bk hP.ho;clear hP;obtain ⟨R,hR⟩:∃R,R = ku p q:=⟨_,rfl⟩;rw [← hR];have HR:=bk hR;clear hR;go_enter Tryz.func49,Tryz.ntmps49;go_upto_region 1 with (refine fk rfl rfl ?_;intro W1 h4 kO)
 have Fs:=HP.out W1 kO;have lU:=bk kO;have H4:=bk h4;have q2:W1.cell? ⟨b,2,none⟩ = some (.map (some qo)):=by simpa [prc] using Fs.blk.cell 2
 have l1:=Fs.blk.lt;cases hq:p.ow q with
 | some y =>
  obtain ⟨yk,ym⟩:=y;have qE:=fh Tryz.underlying111 Tryz.underlying3 Fs.mo (show go' q = some (.agg #[.int .u8 yk,.int .u8 ym]) by rw [Ah.out,hq];rfl) true;have hr:ku p q = (yk,ym):=by unfold ku;rw [hq];rfl
  obtain rfl:R = (yk,ym):=HR.out.trans hr;clear hq hr Fs h4 kO;go_wp2_with (first|refine fk rfl rfl ?_;intro W2 h5 kI;have FU:=bk (H4.out.chg kI ab);have H5:=bk h5;have lE:=bk (lU.out.stay kI);have lT:=bk (show w.heap.size≠W1.heap.size by have:=H4.out.lt;omega);clear h5 kI|refine ej (b:=W1.heap.size) (k':=yk) (m':=ym) rfl _ _ rfl rfl rfl H5.out ?_;intro W3 h53 kM|refine zo (b:=W1.heap.size) rfl _ rfl rfl h53 ?_|refine ej (b:=w.heap.size) (k':=yk) (m':=ym) rfl _ _ rfl rfl rfl (FU.out.chg kM (by simp;exact lT.out)) ?_;intro W4 h44 kZ);refine bodyPost_ret (v:=.agg #[.int .u8 yk,.int .u8 ym]) (results_cell_row (p:=4) (ty:=45) rfl _ _ w.heap.size 45 _ (0,0) _ rfl h44 Tryz.underlying45 rfl kv) rfl ⟨rfl,?_⟩;exact ((lE.out.up [w.heap.size,W1.heap.size]).trans kM (fun y hy=>.inl (by simp at hy;simp [hy]))).trans kZ (fun y hy=>.inl (by simp at hy;simp [hy])) |>.mono (fun y hy=>.inr (by simp at hy;have:=lU.out.size;omega))
 | none =>
  have qE:=fg Tryz.underlying111 Tryz.underlying3 Fs.mo (show go' q = none by rw [Ah.out,hq];rfl) (zero39 W1) true;have hr:ku p q = (p.pk,p.pm):=by unfold ku;rw [hq];rfl
  obtain rfl:R = (p.pk,p.pm):=HR.out.trans hr;clear hq hr Fs h4 kO;go_wp2_with (first|refine fk rfl rfl ?_;intro W2 h5 kI;have FU:=bk (H4.out.chg kI ab);have H5:=bk h5;have lE:=bk (lU.out.stay kI);have lT:=bk (show w.heap.size≠W1.heap.size by have:=H4.out.lt;omega);clear h5 kI|refine ej (b:=W1.heap.size) (k':=0) (m':=0) rfl _ _ rfl rfl rfl H5.out ?_;intro W3 h53 kM;have kL:=bk ((lE.out.up [W1.heap.size]).and_ kM);have H43:=bk (FU.out.chg kM (by simp;exact lT.out));clear kM;have hP3:=HP.out W3 (kL.out.mono (fun y hy=>.inr (by simp at hy;have:=lU.out.size;omega)));have q3:W3.cell? ⟨b,3,none⟩ = some (.int .u8 p.pk):=(by simpa [prc] using hP3.blk.cell 3);have q4:W3.cell? ⟨b,4,none⟩ = some (.int .u8 p.pm):=(by simpa [prc] using hP3.blk.cell 4);have l3:=hP3.blk.lt;clear hP3|refine ej (b:=w.heap.size) (k':=p.pk) (m':=p.pm) rfl _ _ rfl rfl rfl H43.out ?_;intro W4 h44 kZ);refine bodyPost_ret (v:=.agg #[.int .u8 p.pk,.int .u8 p.pm]) (results_cell_row (p:=4) (ty:=45) rfl _ _ w.heap.size 45 _ (0,0) _ rfl h44 Tryz.underlying45 rfl kv) rfl ⟨rfl,?_⟩;exact ((kL.out.mono (fun y hy=>.inl (by simp at hy;simp [hy]))).trans kZ (fun y hy=>.inl (by simp at hy;simp [hy])):Chg [w.heap.size,W1.heap.size] w W4) |>.mono (fun y hy=>.inr (by simp at hy;have:=lU.out.size;omega))
section
variable {w W:World} {m:Nat} {M:Mo} {O:Nat→Prop} {bp bo be:Nat} {fp fo fe:Int→Option Value} {gb:Int→Nat} {GF:Int→Nat→Prop} {ov:Int→Value}
theorem pol_end (hI:MIn w m M bp bo be fp fo fe gb GF ov) (hO:∀k,FMo M m bp bo be GF ov k→O k) (hl:∀k,O k→k < w.heap.size) {pid:Int} {p:Pr} (hp:M.pr pid = some p)
  {d:Nat} {FA:List Nat} {qp qo:Nat} {gp' go':Int→Option Value} {gp:Int→Nat} (hP:PIn w (gb pid) p d FA qp qo gp' go' gp) (mI:∀k,FPr p (gb pid) FA qp qo gp k→GF pid k) (pA:∀k,GF pid k→k < w.heap.size)
  {pk pm:Nat} (hk:pk < 256∧pm < 256) (hc:Chg [gb pid] w W) (hb:Blk W (gb pid) 113 (prc d qp qo { p with pk:=pk,pm:=pm })) :
  CP O w W∧∃O',MMem W m { M with pr:=upd M.pr pid (some { p with pk:=pk,pm:=pm }) } O'∧∀k,O' k→O k:=by
 have CY:∀k,GF pid k→O k:=fun k hk=>hO k (.inr (.inr (.inr (.inr (.inl ⟨pid,p,hp,hk⟩)))));have hG:CP (fun k=>k = gb pid) w W:=CP.of hc (fun k hk=>.inl (aa hk));obtain ⟨FB,GX,mQ,yP⟩:=hP.ar.tight;have mW:=hc.size;obtain ⟨r1,O',r2,r3⟩:=ya (F':=GF pid) hI hO hl hp (CP.of hc (fun k hk=>.inl (by obtain rfl:=aa hk;exact mI _ (.inl rfl)))) (p':={ p with pk:=pk,pm:=pm })
  ⟨d,FB,qp,qo,gp',go',gp,⟨hb,GX.cp hG (by
    rintro k hk rfl
    rcases yP _ hk with ⟨cs,h⟩ | ⟨cs,h⟩
    ·exact Blk.ne_ h hP.blk (by decide) rfl
    ·exact Blk.ne_ h hP.blk (by decide) rfl),hP.sp,hP.mp.cp hG (fun e=>bj hP.blk hP.mp e.symm),hP.mo.cp hG (fun e=>bj hP.blk hP.mo e.symm),hP.hp,hP.ho,fun n B h=>(hP.pg n B h).cp hG (Blk.ne_ (hP.pg n B h).blk hP.blk (by decide)),hP.inj,hP.ne,hk.1,hk.2,hP.ow⟩,by
   rintro k (rfl | hk | rfl | rfl | ⟨n,B,h,rfl⟩)
   ·exact mI _ (.inl rfl)
   ·exact mI _ (.inr (.inl (mQ k hk)))
   ·exact mI _ (.inr (.inr (.inl rfl)))
   ·exact mI _ (.inr (.inr (.inr (.inl rfl))))
   ·exact mI _ (.inr (.inr (.inr (.inr ⟨n,B,h,rfl⟩)))),fun k hk=>al (pA k hk) mW⟩ (fun k hk=>.inl hk)
 exact ⟨r1,O',r2,fun k hk=>(r3 k hk).elim id (CY k)⟩
theorem own_end (hI:MIn w m M bp bo be fp fo fe gb GF ov) (hO:∀k,FMo M m bp bo be GF ov k→O k) (hl:∀k,O k→k < w.heap.size) {pid:Int} {p:Pr} (hp:M.pr pid = some p)
  {d:Nat} {FA:List Nat} {qp qo:Nat} {gp' go':Int→Option Value} {gp:Int→Nat} (hP:PIn w (gb pid) p d FA qp qo gp' go' gp) (mI:∀k,FPr p (gb pid) FA qp qo gp k→GF pid k) (pA:∀k,GF pid k→k < w.heap.size)
  {ow':Int→Option (Nat × Nat)} {fo'':Int→Option Value} (hc:Chg [qo] w W) (hm:MapB W qo .i64 fo'') (ho:∀n,fo'' n = (ow' n).map fun q=>.agg #[.int .u8 q.1,.int .u8 q.2]) (hk:∀n q,ow' n = some q→q.1 < 256∧q.2 < 256) :
  CP O w W∧∃O',MMem W m { M with pr:=upd M.pr pid (some { p with ow:=ow' }) } O'∧∀k,O' k→O k:=by
 have CY:∀k,GF pid k→O k:=fun k hk=>hO k (.inr (.inr (.inr (.inr (.inl ⟨pid,p,hp,hk⟩)))));have hG:CP (fun k=>k = qo) w W:=CP.of hc (fun k hk=>.inl (aa hk));obtain ⟨FB,GX,mQ,yP⟩:=hP.ar.tight;have mW:=hc.size;obtain ⟨r1,O',r2,r3⟩:=ya (F':=GF pid) hI hO hl hp (CP.of hc (fun k hk=>.inl (by obtain rfl:=aa hk;exact mI _ (.inr (.inr (.inr (.inl rfl))))))) (p':={ p with ow:=ow' })
  ⟨d,FB,qp,qo,gp',fo'',gp,⟨hP.blk.cp hG (bj hP.blk hP.mo),GX.cp hG (by
    rintro k hk rfl
    rcases yP _ hk with ⟨cs,h⟩ | ⟨cs,h⟩
    ·exact bj h hP.mo rfl
    ·exact bj h hP.mo rfl),hP.sp,hP.mp.cp hG hP.ne,hm,hP.hp,ho,fun n B h=>(hP.pg n B h).cp hG (bj (hP.pg n B h).blk hP.mo),hP.inj,hP.ne,hP.pk,hP.pm,hk⟩,by
   rintro k (rfl | hk | rfl | rfl | ⟨n,B,h,rfl⟩)
   ·exact mI _ (.inl rfl)
   ·exact mI _ (.inr (.inl (mQ k hk)))
   ·exact mI _ (.inr (.inr (.inl rfl)))
   ·exact mI _ (.inr (.inr (.inr (.inl rfl))))
   ·exact mI _ (.inr (.inr (.inr (.inr ⟨n,B,h,rfl⟩)))),fun k hk=>al (pA k hk) mW⟩ (fun k hk=>.inl hk)
 exact ⟨r1,O',r2,fun k hk=>(r3 k hk).elim id (CY k)⟩
end
theorem jW
  (hI:MIn w m M bp bo be fp fo fe gb GF ov) (hO:∀k,FMo M m bp bo be GF ov k→O k) (hl:∀k,O k→k < w.heap.size) {pid:Int} {p:Pr} (hp:M.pr pid = some p)
  {b4 b8:Nat} {x:Cl} {v:Value} (h4:KB w b4 x v) (h8:Blk w b8 103 #[.pointer (some ⟨gb pid,0,none⟩)]) (hk:x.ok < 256∧x.om < 256) :
  Calls Tryz.prog 67 #[.pointer (some ⟨b4,0,none⟩),.pointer (some ⟨b8,0,none⟩)] w fun e W'=>e = .returned (.tuple #[])∧CP O w W'∧∃O',MMem W' m { M with pr:=upd M.pr pid (some { p with pk:=x.ok,pm:=x.om }) } O'∧∀k,O' k→O k:=by
 obtain ⟨d,FA,qp,qo,gp',go',gp,hP,mI,pA⟩:=hI.pr pid p hp;have nD:=bk (fun W (hc:Chg [gb pid] w W)=>@pol_end w W m M O bp bo be fp fo fe gb GF ov hI hO hl pid p hp d FA qp qo gp' go' gp hP mI pA x.ok x.om hk hc);obtain ⟨-,-,-,-,-,-,-,-,c8,c9,-,-,l4,-⟩:=ay h4;have q8:w.cell? ⟨b8,0,none⟩ = some (.pointer (some ⟨gb pid,0,none⟩)):=by simpa using h8.cell 0
 have l8:=h8.lt;have lb:=hP.blk.lt;have HT:=bk (show w.there (gb pid) 3 2 from fun j hj=>by
  rw [hP.blk.cell,hP.blk.frozen]
  refine ⟨?_,rfl⟩
  rcases (by omega:j = 0∨j = 1) with rfl | rfl <;> simp [prc])
 have HS:=bk (show Blk (w.setCells (gb pid) 3 [.int .u8 x.ok,.int .u8 x.om]) (gb pid) 113 (prc d qp qo { p with pk:=x.ok,pm:=x.om }) from
  (hP.blk.set_ 3 (.int .u8 x.ok)).set_ 4 (.int .u8 x.om))
 have HC:=bk (show Chg [gb pid] w (w.setCells (gb pid) 3 [.int .u8 x.ok,.int .u8 x.om]) from
  ((av [gb pid] w).setCell (p:=⟨gb pid,3,none⟩) (.inl (by simp)) _).setCell (p:=⟨gb pid,4,none⟩) (.inl (by simp)) _)
 clear hI hO hl hp hP mI pA h4 h8 hk;go_enter Tryz.func67,Tryz.ntmps67;go_wp2_with (refine wpList_store_mid rfl 45 _ _ rfl (gb pid) 3 #[.int .u8 x.ok,.int .u8 x.om] rfl rfl HT.out kv (by simp [show ∀k z,(Value.int k z).oneCell' = true from fun _ _=>rfl]) ?_);go_end0;exact ⟨rfl,nD.out _ HC.out HS.out⟩
theorem inR_add {α:Type} {f:Int→Option α} {u:α} (y:Int):(if y = g+(k:Int) then some u else if inR g (k:Int) y then some u else f y) = if inR g ((k+1:Nat):Int) y then some u else f y:=by
 unfold inR;by_cases h1:y = g+(k:Int)
 ·rw [ah h1,ah (by simp;omega)]
 ·rw [ag h1];by_cases h2:g≤y∧y < g+(k:Int)
  ·rw [ah (by simpa using h2),ah (by simp;omega)]
  ·rw [ag (by simpa using h2),ag (by simp;omega)]
theorem inR_none {α:Type} {f:Int→Option α} {u:α} (y:Int):f y = if inR g ((0:Nat):Int) y then some u else f y:=by unfold inR;rw [ag (by simp)]
theorem mbind_do
  (hI:MIn w m M bp bo be fp fo fe gb GF ov) (hO:∀k,FMo M m bp bo be GF ov k→O k) (hl:∀k,O k→k < w.heap.size) {pid:Int} {p:Pr} (hp:M.pr pid = some p)
  {b4 b8:Nat} {x:Cl} {v:Value} (h4:KB w b4 x v) (h8:Blk w b8 103 #[.pointer (some ⟨gb pid,0,none⟩)]) (hk:x.ok < 256∧x.om < 256) (hx:0≤x.g∧x.g≤1024∧0≤x.c∧x.c≤1024) :
  Calls Tryz.prog 71 #[.pointer (some ⟨b4,0,none⟩),.pointer (some ⟨b8,0,none⟩)] w fun e W'=>e = .returned (.tuple #[])∧CP O w W'∧∃O',MMem W' m { M with pr:=upd M.pr pid (some { p with ow:=fun q=>if inR x.g x.c q then some (x.ok,x.om) else p.ow q }) } O'∧∀k,O' k→O k:=by
 obtain ⟨d,FA,qp,qo,gp',go',gp,hP,mI,pA⟩:=hI.pr pid p hp;have nD:=bk (fun W (hc:Chg [qo] w W) (hm:MapB W qo .i64 fun q=>if inR x.g x.c q then some (.agg #[.int .u8 x.ok,.int .u8 x.om]) else go' q)=>@own_end w W m M O bp bo be fp fo fe gb GF ov hI hO hl pid p hp d FA qp qo gp' go' gp hP mI pA (fun q=>if inR x.g x.c q then some (x.ok,x.om) else p.ow q) _ hc hm
  (fun n=>by
   show (if inR x.g x.c n then some (Value.agg #[.int .u8 x.ok,.int .u8 x.om]) else go' n) = (if inR x.g x.c n then some (x.ok,x.om) else p.ow n).map _
   by_cases hr:inR x.g x.c n = true
   ·rw [ah hr,ah hr];rfl
   ·rw [ag hr,ag hr];exact hP.ho n)
  (fun n q e=>by
   replace e:(if inR x.g x.c n then some (x.ok,x.om) else p.ow n) = some q:=e
   by_cases hr:inR x.g x.c n = true
   ·rw [ah hr] at e;obtain rfl:=aq e;exact hk
   ·rw [ag hr] at e;exact hP.ow n q e))
 obtain ⟨cn,xH⟩:∃n:Nat,x.c = n:=⟨x.c.toNat,by omega⟩;have En:(cn:Int)≤1024:=by omega
 have HG:=bk (ai hx.1 (ai hx.2.1 xH));have kZ:=(ay h4).2.2.2.2.1;have l4:=h4.lt;rw [xH] at kZ nD;have HN:=bk (ai (show b4≠qo from bj h4 hP.mo) (ai (show b8≠qo from bj h8 hP.mo) (show gb pid≠qo from bj hP.blk hP.mo)));have Fi:=bk hP.mo;have HK:=bk h4;have H8:=bk h8;have HB:=bk hP.blk;clear hI hO hl hp hP mI pA h4 h8 hk hx xH;go_enter Tryz.func71,Tryz.ntmps71;go_upto_region 1 with (fail)
 clear kZ l4;go_loopw [5] (fun i wr=>∃(k:Nat),k≤cn∧i = .int .i64 k∧Hid (MapB wr qo .i64 fun q=>if inR x.g (k:Nat) q then some (.agg #[.int .u8 x.ok,.int .u8 x.om]) else go' q)∧Hid (Chg [qo] w wr)) (fun i _=>cn - (intOf i).toNat)
 case atStart=>exact ⟨0,by omega,rfl,bk (MapB.congr Fi.out inR_none),bk (av _ _)⟩
 case round =>
  obtain ⟨k,hk,rfl,h1,hc⟩:=hrel;have h4:KB wr b4 x v:=aw HK.out hc.out (by simp;exact HN.out.1);have h8:=H8.out.chg hc.out (by simp;exact HN.out.2.1);have hb:=HB.out.chg hc.out (by simp;exact HN.out.2.2);by_cases nC:k < cn
  ·obtain ⟨-,-,-,qg,-,-,-,-,c8,c9,-,-,l4,-⟩:=ay h4;have q8:wr.cell? ⟨b8,0,none⟩ = some (.pointer (some ⟨gb pid,0,none⟩)):=(by simpa using h8.cell 0);have q2:wr.cell? ⟨gb pid,2,none⟩ = some (.map (some qo)):=(by simpa [prc] using hb.cell 2);have l8:=h8.lt;have lb:=hb.lt;have d1:decide ((k:Int) < (cn:Int)) = true:=ae (by omega);have sM:IntKind.i64.wrap (x.g+(k:Int)) = x.g+(k:Int):=(by rw [IntKind.wrap_i64];have:=HG.out;omega);have tT:IntKind.i64.wrap ((k:Int)+1) = (k:Int)+1:=(by rw [IntKind.wrap_i64];omega);have oT:=bk nC;have Fh:=bk (show MapB wr.drew qo .i64 _ from h1.out);have Bo:=bk (show Chg [qo] w wr.drew from hc.out.drew);clear nC hk h1 hc h4 h8 hb;go_upto_region 3 with (fail)
   refine km [1,0,0,1,0,1,0,0,0,1,3] ?_;go_wp2_with (first|refine dy fun K U=>?_;refine ir (val:=.agg #[.int .u8 x.ok,.int .u8 x.om]) _ _ _ rfl Tryz.underlying111 Tryz.underlying3 rfl rfl rfl Fh.out ?_;intro W5 h5 kE;refine U _ _ ?_;clear U K|refine cdA fun K U=>?_|refine bn fun K U=>?_;go_simp|refine bq ?_);go_roundw
   case rel=>exact ⟨k+1,by have:=oT.out;omega,by go_num,bk (MapB.congr h5 inR_add),bk (Bo.out.and_ kE)⟩
   case measure=>have:=oT.out;simp [intOf];omega
  ·obtain rfl:k = cn:=(by omega);have HH:=bk (ai h1.out hc.out);obtain ⟨-,-,-,-,c4,-,-,-,-,-,-,-,l4,-⟩:=ay h4;clear h1 hc h4 h8 hb;go_wp2_with fail;go_end0;rw [show x.c = (k:Int) from HG.out.2.2];exact ⟨rfl,nD.out wr HH.out.2 HH.out.1⟩
