/- Texts merged for the claim. -/
import Derived.Test.YtfoleblcaloeoaaGreatDoorZas
set_option maxHeartbeats 40000000
set_option maxRecDepth 20000
namespace Go.Proofs.YtfoleblcaloeoaaGreatDoor
open Go Go.RowKit
theorem MapB.congr {w:World} {b:Nat} {k:IntKind} {f g:Int→Option Value} (h:MapB w b k f) (e:∀z,f z = g z):MapB w b k g:=by
 have:f = g:=funext e
 rwa [← this]
theorem bQ {g:Int} {k:Nat} {f:Int→Option Value} (y:Int):(if y = g+(k:Int) then none else if inR g (k:Int) y then none else f y) = if inR g ((k+1:Nat):Int) y then none else f y:=by
 unfold inR
 by_cases h1:y = g+(k:Int)
 ·rw [if_pos h1,if_pos (by simp;omega)]
 ·rw [if_neg h1]
  by_cases h2:g≤y∧y < g+(k:Int)
  ·rw [if_pos (by simpa using h2),if_pos (by simp;omega)]
  ·rw [if_neg (by simpa using h2),if_neg (by simp;omega)]
theorem bR {g:Int} {f:Int→Option Value} (y:Int):f y = if inR g ((0:Nat):Int) y then none else f y:=by
 unfold inR
 rw [if_neg (by simp)]
section
variable {w W:World} {m:Nat} {M:Mo} {O:Nat→Prop} {bp bo be:Nat} {fp fo fe:Int→Option Value} {gb:Int→Nat} {GF:Int→Nat→Prop} {ov:Int→Value}
theorem dM (hI:MIn w m M bp bo be fp fo fe gb GF ov) (hO:∀k,FMo M m bp bo be GF ov k→O k) (hl:∀k,O k→k < w.heap.size) {pid:Int} {p:Pr} (hp:M.pr pid = some p)
  {d:Nat} {FA:List Nat} {qp qo:Nat} {gp' go':Int→Option Value} {gp:Int→Nat} (hP:PIn w (gb pid) p d FA qp qo gp' go' gp) (lH:∀k,FPr p (gb pid) FA qp qo gp k→GF pid k) (pA:∀k,GF pid k→k < w.heap.size)
  {d':Nat} {F':List Nat} {rl':List Ar.Rn} {pg':Int→Option (List Nat)} {ow':Int→Option (Nat × Nat)} {fp'' fo'':Int→Option Value}
  (hc:Chg [gb pid,qp,qo] w W) (hb:Blk W (gb pid) 113 (prc d' qp qo p)) (hA:Ar.AMem W d' rl' F') (hS:Ar.Sp rl') (hF:∀k∈F',¬ O k)
  (h1:MapB W qp .i64 fp'') (h2:MapB W qo .i64 fo'') (h3:∀n,fp'' n = (pg' n).map fun _=>.pointer (some ⟨gp n,0,none⟩)) (h4:∀n,fo'' n = (ow' n).map fun q=>.agg #[.int .u8 q.1,.int .u8 q.2])
  (h5:∀n B,pg' n = some B→p.pg n = some B) (h6:∀n q,ow' n = some q→p.ow n = some q) :
  CP O w W∧∃O',MMem W m { M with pr:=upd M.pr pid (some { p with rl:=rl',pg:=pg',ow:=ow' }) } O'∧∀k,O' k→O k∨k∈F':=by
 have hG:CP (fun k=>k = gb pid∨k = qp∨k = qo) w W:=CP.of hc (fun k hk=>.inl (by simpa using hk))
 have kO:CP (GF pid) w W:=CP.of hc (fun k hk=>.inl (by
  simp at hk
  rcases hk with rfl | rfl | rfl
  ·exact lH _ (.inl rfl)
  ·exact lH _ (.inr (.inr (.inl rfl)))
  ·exact lH _ (.inr (.inr (.inr (.inl rfl))))))
 have lY:=hc.size
 obtain ⟨r1,O',r2,r3⟩:=wu (F':=fun k=>GF pid k∨k∈F') hI hO hl hp kO (p':={ p with rl:=rl',pg:=pg',ow:=ow' })
  ⟨d',F',qp,qo,fp'',fo'',gp,⟨hb,hA,hS,h1,h2,h3,h4,fun n B hB=>(hP.pg n B (h5 n B hB)).cp hG (by
    have hk:=hP.pg n B (h5 n B hB)
    rintro (e | e | e)
    ·exact Blk.ne_ hk.blk hP.blk (by decide) e
    ·exact Blk.ne_map hk.blk hP.mp e
    ·exact Blk.ne_map hk.blk hP.mo e),fun n n' B B' e e'=>hP.inj n n' B B' (h5 n B e) (h5 n' B' e'),hP.ne,hP.pk,hP.pm,fun n q e=>hP.ow n q (h6 n q e)⟩,by
   rintro k (rfl | hk | rfl | rfl | ⟨n,B,hB,rfl⟩)
   ·exact .inl (lH _ (.inl rfl))
   ·exact .inr hk
   ·exact .inl (lH _ (.inr (.inr (.inl rfl))))
   ·exact .inl (lH _ (.inr (.inr (.inr (.inl rfl)))))
   ·exact .inl (lH _ (.inr (.inr (.inr (.inr ⟨n,B,h5 n B hB,rfl⟩))))),by
   rintro k (hk | hk)
   ·have:=pA k hk;omega
   ·exact hA.lt k hk⟩ (fun k hk=>hk.imp id (hF k))
 refine ⟨r1,O',r2,fun k hk=>?_⟩
 rcases r3 k hk with h | h | h
 ·exact .inl h
 ·exact .inl (hO k (.inr (.inr (.inr (.inr (.inl ⟨pid,p,hp,h⟩))))))
 ·exact .inr h
end
theorem gU {w:World} {m:Nat} {M:Mo} {O:Nat→Prop} {bp bo be:Nat} {fp fo fe:Int→Option Value} {gb:Int→Nat} {GF:Int→Nat→Prop} {ov:Int→Value}
  (hI:MIn w m M bp bo be fp fo fe gb GF ov) (hO:∀k,FMo M m bp bo be GF ov k→O k) (hl:∀k,O k→k < w.heap.size) {pid:Int} {p:Pr} (hp:M.pr pid = some p)
  {b6 b2 b3 d':Nat} {F':List Nat} {rl':List Ar.Rn} {x:Cl} {v:Value} (h6:Blk w b6 109 #[.pointer (some ⟨d',0,none⟩)]) (h2:Blk w b2 103 #[.pointer (some ⟨gb pid,0,none⟩)]) (h3:KB w b3 x v)
  (hA:Ar.AMem w d' rl' F') (hS:Ar.Sp rl') (hF:∀k∈F',¬ O k) (hx:x.k = 4→0≤x.g∧x.g≤1024∧0≤x.c∧x.c≤1024) :
  Calls Tryz.prog 98 #[.pointer (some ⟨b6,0,none⟩),.pointer (some ⟨b2,0,none⟩),.pointer (some ⟨b3,0,none⟩)] w fun e W'=>e = .returned (.tuple #[])∧CP O w W' ∧
   ∃O',MMem W' m { M with pr:=upd M.pr pid (some (if x.k = 4 then { p with rl:=rl',pg:=fun q=>if inR x.g x.c q then none else p.pg q,ow:=fun q=>if inR x.g x.c q then none else p.ow q } else { p with rl:=rl' })) } O'∧∀k,O' k→O k∨k∈F':=by
 obtain ⟨d,FA,qp,qo,gp',go',gp,hP,lH,pA⟩:=hI.pr pid p hp
 have lT:=ah (fun W pg' ow' (fp'' fo'':Int→Option Value) (hc:Chg [gb pid,qp,qo] w W)=>@dM w W m M O bp bo be fp fo fe gb GF ov hI hO hl pid p hp d FA qp qo gp' go' gp hP lH pA d' F' rl' pg' ow' fp'' fo'' hc)
 have pB:=hP.blk.lt
 have qA:w.cell? ⟨gb pid,0,none⟩ = some (.pointer (some ⟨d,0,none⟩)):=by simpa [prc] using hP.blk.cell 0
 have fzb:=hP.blk.frozen
 have q6:w.cell? ⟨b6,0,none⟩ = some (.pointer (some ⟨d',0,none⟩)):=by simpa using h6.cell 0
 have q2:w.cell? ⟨b2,0,none⟩ = some (.pointer (some ⟨gb pid,0,none⟩)):=by simpa using h2.cell 0
 have l6:=h6.lt
 have l2:=h2.lt
 have n2:b2≠gb pid:=Blk.ne_ h2 hP.blk (by decide)
 have n3:b3≠gb pid:=Blk.ne_ h3 hP.blk (by decide)
 have jG:Blk (w.setCell ⟨gb pid,0,none⟩ (.pointer (some ⟨d',0,none⟩))) (gb pid) 113 (prc d' qp qo p):=Blk.set_ hP.blk 0 (.pointer (some ⟨d',0,none⟩))
 have uK:Chg [gb pid] w (w.setCell ⟨gb pid,0,none⟩ (.pointer (some ⟨d',0,none⟩))):=(Chg.refl [gb pid] w).setCell (p:=⟨gb pid,0,none⟩) (.inl (by simp)) _
 have HB:=ah jG
 have HC:=ah uK
 have nA:∀k∈F',k≠gb pid:=fun k hk e=>hF k hk (hO k (.inr (.inr (.inr (.inr (.inl ⟨pid,p,hp,e ▸ lH _ (.inl rfl)⟩))))))
 have HA:=ah (show Ar.AMem (w.setCell ⟨gb pid,0,none⟩ (.pointer (some ⟨d',0,none⟩))) d' rl' F' from hA.chg uK (fun k hk=>by simpa using nA k hk))
 have nAp:∀k∈F',k≠qp∧k≠qo:=fun k hk=>⟨fun e=>hF k hk (hO k (.inr (.inr (.inr (.inr (.inl ⟨pid,p,hp,e ▸ lH _ (.inr (.inr (.inl rfl)))⟩)))))),fun e=>hF k hk (hO k (.inr (.inr (.inr (.inr (.inl ⟨pid,p,hp,e ▸ lH _ (.inr (.inr (.inr (.inl rfl))))⟩))))))⟩
 have NAP:=ah nAp
 have sE:=ah (show MapB (w.setCell ⟨gb pid,0,none⟩ (.pointer (some ⟨d',0,none⟩))) qp .i64 gp' from hP.mp.chg uK (by simp;exact fun e=>Blk.ne_map hP.blk hP.mp e.symm))
 have Ec:=ah (show MapB (w.setCell ⟨gb pid,0,none⟩ (.pointer (some ⟨d',0,none⟩))) qo .i64 go' from hP.mo.chg uK (by simp;exact fun e=>Blk.ne_map hP.blk hP.mo e.symm))
 have HK:=ah (show KB (w.setCell ⟨gb pid,0,none⟩ (.pointer (some ⟨d',0,none⟩))) b3 x v from Blk.chg h3 uK (by simpa using n3))
 have H2:=ah (show Blk (w.setCell ⟨gb pid,0,none⟩ (.pointer (some ⟨d',0,none⟩))) b2 103 #[.pointer (some ⟨gb pid,0,none⟩)] from h2.chg uK (by simpa using n2))
 have Ad:=ah (And.intro (show b2≠qp from Blk.ne_map h2 hP.mp) (And.intro (show b2≠qo from Blk.ne_map h2 hP.mo) (And.intro (show b3≠qp from Blk.ne_map h3 hP.mp) (show b3≠qo from Blk.ne_map h3 hP.mo))))
 have oL:=ah (And.intro (show gb pid≠qp from hP.blk.ne_map hP.mp) (And.intro (show gb pid≠qo from hP.blk.ne_map hP.mo) hP.ne))
 have HPH:=ah hP.hp
 have tB:=ah hP.ho
 have HS:=ah hS
 have HX:=ah hx
 have HF:=ah hF
 have BX:=(KB.cells HK.out).1
 clear hI hO hl hp hP lH pA h6 h2 h3 hA hS hF hx jG uK nA nAp
 obtain ⟨p2,oU⟩:∃p2,p2 = if x.k = 4 then { p with rl:=rl',pg:=fun q=>if inR x.g x.c q then none else p.pg q,ow:=fun q=>if inR x.g x.c q then none else p.ow q } else { p with rl:=rl' }:=⟨_,rfl⟩
 rw [← oU]
 have rS:=ah oU
 clear oU
 go_enter Tryz.func98,Tryz.ntmps98
 go_upto_region 1 with (fail)
 generalize w.setCell ⟨gb pid,0,none⟩ (.pointer (some ⟨d',0,none⟩)) = W1 at *
 clear qA fzb q6 q2
 by_cases h4:x.k = 4
 case neg =>
  have e4:((x.k:Int) == 4) = false:=beq_false_of_ne (by omega)
  have e4':¬ (x.k:Int) = 4:=by omega
  have H4:=ah h4
  clear h4
  go_wp2_with fail
  refine bodyPost_ret (results_none rfl _ _ _) rfl ?_
  rw [rS.out,if_neg H4.out]
  exact ⟨rfl,lT.out W1 p.pg p.ow gp' go' (HC.out.mono (fun y hy=>.inl (by simp at hy;simp [hy]))) HB.out HA.out HS.out HF.out sE.out Ec.out HPH.out tB.out (fun _ _ h=>h) (fun _ _ h=>h)⟩
 obtain ⟨g0,g1,c0,c1⟩:=HX.out h4
 rw [if_pos h4] at rS
 rw [h4] at BX
 have hxc:=(KB.cells HK.out).2.2.2.2.1
 obtain ⟨cn,vM⟩:∃n:Nat,x.c = n:=⟨x.c.toNat,by omega⟩
 rw [vM] at hxc
 have Di:(cn:Int)≤1024:=by omega
 have l3:=KB.cells HK.out |>.2.2.2.2.2.2.2.2.2.2.2.2.1
 have HG:=ah (And.intro g0 (And.intro g1 vM))
 clear h4 g0 g1 c0 c1 vM
 go_upto_region 3 with (fail)
 clear BX hxc l3 l2 l6 pB
 go_loopw [13] (fun i wr=>∃(k:Nat),k≤cn∧i = .int .i64 k∧Hid (Blk wr (gb pid) 113 (prc d' qp qo p))∧Hid (MapB wr qp .i64 fun q=>if inR x.g (k:Nat) q then none else gp' q)∧Hid (MapB wr qo .i64 fun q=>if inR x.g (k:Nat) q then none else go' q)∧Hid (Chg [qp,qo] W1 wr)) (fun i _=>cn - (intOf i).toNat)
 case atStart=>exact ⟨0,by omega,rfl,HB,ah (MapB.congr sE.out bR),ah (MapB.congr Ec.out bR),ah (Chg.refl _ _)⟩
 case round =>
  obtain ⟨k,hk,rfl,hb,h1,h2,hc⟩:=hrel
  have kG:=Blk.chg HK.out hc.out (by simp;exact ⟨Ad.out.2.2.1,Ad.out.2.2.2⟩)
  have FE:=Blk.chg H2.out hc.out (by simp;exact ⟨Ad.out.1,Ad.out.2.1⟩)
  by_cases hkl:k < cn
  ·have q2:wr.cell? ⟨b2,0,none⟩ = some (.pointer (some ⟨gb pid,0,none⟩)):=by simpa using FE.cell 0
   have qp1:wr.cell? ⟨gb pid,1,none⟩ = some (.map (some qp)):=by simpa [prc] using hb.out.cell 1
   have qp2:wr.cell? ⟨gb pid,2,none⟩ = some (.map (some qo)):=by simpa [prc] using hb.out.cell 2
   have qg:=(KB.cells kG).2.2.2.1
   have lb:=hb.out.lt
   have l2:=FE.lt
   have l3:=kG.lt
   have d1:decide ((k:Int) < (cn:Int)) = true:=ae (by omega)
   have oV:IntKind.i64.wrap (x.g+(k:Int)) = x.g+(k:Int):=by rw [IntKind.wrap_i64];have:=HG.out;omega
   have rG:IntKind.i64.wrap ((k:Int)+1) = (k:Int)+1:=by rw [IntKind.wrap_i64];omega
   have lZ:=ah hkl
   clear hkl hk
   have Ac:=ah (show MapB wr.drew qp .i64 _ from h1.out)
   have HM2:=ah (show MapB wr.drew qo .i64 _ from h2.out)
   have HBd:=ah (show Blk wr.drew (gb pid) 113 (prc d' qp qo p) from hb.out)
   have HKd:=ah (show KB wr.drew b3 x v from kG)
   have H2d:=ah (show Blk wr.drew b2 103 #[.pointer (some ⟨gb pid,0,none⟩)] from FE)
   have zY:=ah (show Chg [qp,qo] W1 wr.drew from hc.out.drew)
   clear hb h1 h2 hc kG FE
   go_upto_region 5 with (fail)
   refine rgt [1,0,0,1,0,1,0,0,3] [none,none,none,none,none,none,none,none,none] (fun _=>True) ?_
   go_wp2_with (first|refine ao fun K I=>?_;refine nw _ _ rfl Tryz.underlying110 Tryz.underlying3 rfl rfl Ac.out ?_;intro W5 h5 U;refine I _ _ ?_;clear I K|refine av fun K I=>?_|refine ai fun K I=>?_;go_simp;refine I _ _ ?_;clear I K|refine ao fun K I=>?_;go_simp|refine aj ?_)
   have rI:=ah h5
   have AI:=ah (MapB.stay (MapB.chg HM2.out U (show qo∉[qp] by simp;exact fun e=>oL.out.2.2 e.symm)) (Chg.refl [] W5).drew)
   have mX:=ah (Blk.drew (Blk.chg HBd.out U (show gb pid∉[qp] by simp;exact oL.out.1)))
   have wV:=ah (show KB W5.drew b3 x v from Blk.drew (Blk.chg HKd.out U (show b3∉[qp] by simp;exact Ad.out.2.2.1)))
   have H25:=ah (Blk.drew (Blk.chg H2d.out U (show b2∉[qp] by simp;exact Ad.out.1)))
   have jL:=ah (show Chg [qp,qo] W1 W5.drew from (zY.out.trans U (fun y hy=>.inl (by simp at hy;simp [hy]))).drew)
   clear h5 U q2 qp1 qp2 qg lb l2 l3 Ac HM2 HBd HKd H2d zY
   have q2:W5.cell? ⟨b2,0,none⟩ = some (.pointer (some ⟨gb pid,0,none⟩)):=by simpa using H25.out.cell 0
   have qp1:W5.cell? ⟨gb pid,1,none⟩ = some (.map (some qp)):=by simpa [prc] using mX.out.cell 1
   have qp2:W5.cell? ⟨gb pid,2,none⟩ = some (.map (some qo)):=by simpa [prc] using mX.out.cell 2
   have qg:W5.cell? ⟨b3,3,none⟩ = some (.int .i64 x.g):=(KB.cells wV.out).2.2.2.1
   have lb:gb pid < W5.heap.size:=mX.out.lt
   have l2:b2 < W5.heap.size:=H25.out.lt
   have l3:b3 < W5.heap.size:=wV.out.lt
   refine rgt [1,0,0,1,0,1,0,0,3] [none,none,none,none,none,none,none,none,none] (fun _=>True) ?_
   go_wp2_with (first|refine ao fun K I=>?_;refine nw _ _ rfl Tryz.underlying111 Tryz.underlying3 rfl rfl AI.out ?_;intro W6 h6 iZ;refine I _ _ ?_;clear I K|refine av fun K I=>?_|refine ai fun K I=>?_;go_simp;refine I _ _ ?_;clear I K|refine ao fun K I=>?_;go_simp|refine aj ?_)
   go_roundw
   case rel=>exact ⟨k+1,by have:=lZ.out;omega,by go_num,ah (mX.out.chg iZ (by simp;exact oL.out.2.1)),ah ((MapB.congr (MapB.stay rI.out (Chg.refl [] W5).drew) bQ).chg iZ (by simp;exact oL.out.2.2)),ah (MapB.congr h6 bQ),ah (jL.out.trans iZ (fun y hy=>.inl (by simp at hy;simp [hy])))⟩
   case measure=>have:=lZ.out;simp [intOf];omega
  ·obtain rfl:k = cn:=by omega
   have HH:=ah (And.intro hb.out (And.intro h1.out (And.intro h2.out hc.out)))
   clear hb h1 h2 hc kG FE
   go_wp2_with fail
   go_end0
   rw [rS.out]
   have vM:=HG.out.2.2
   have lF:Chg [gb pid,qp,qo] w wr:=(HC.out.mono (fun y hy=>.inl (by simp at hy;simp [hy]))).trans HH.out.2.2.2 (fun y hy=>.inl (by simp at hy;rcases hy with rfl | rfl <;> simp))
   refine ⟨rfl,lT.out wr _ _ _ _ lF HH.out.1 (HA.out.chg HH.out.2.2.2 (fun k hk=>by simp;exact NAP.out k hk)) HS.out HF.out HH.out.2.1 HH.out.2.2.1 (fun n=>?_) (fun n=>?_) (fun n B e=>?_) (fun n q e=>?_)⟩
   ·rw [vM]
    by_cases hr:inR x.g (k:Nat) n = true
    ·rw [if_pos hr,if_pos hr];rfl
    ·rw [if_neg hr,if_neg hr];exact HPH.out n
   ·rw [vM]
    by_cases hr:inR x.g (k:Nat) n = true
    ·rw [if_pos hr,if_pos hr];rfl
    ·rw [if_neg hr,if_neg hr];exact tB.out n
   ·by_cases hr:inR x.g x.c n = true
    ·rw [if_pos hr] at e;cases e
    ·rwa [if_neg hr] at e
   ·by_cases hr:inR x.g x.c n = true
    ·rw [if_pos hr] at e;cases e
    ·rwa [if_neg hr] at e
section
variable {w w':World} {m:Nat} {M:Mo} {O:Nat→Prop} {X:List Nat} {bp bo be:Nat} {fp fo fe:Int→Option Value} {gb:Int→Nat} {GF:Int→Nat→Prop} {ov:Int→Value}
theorem MIn.stay (hI:MIn w m M bp bo be fp fo fe gb GF ov) (hc:Chg [] w w'):MIn w' m M bp bo be fp fo fe gb GF ov:=hI.cp (CP.of0 (F:=fun _=>False) hc) (fun _ _ h=>h)
theorem MIn.off (hI:MIn w m M bp bo be fp fo fe gb GF ov) (hO:∀k,FMo M m bp bo be GF ov k→O k) (hc:CP (fun k=>¬ O k) w w'):MIn w' m M bp bo be fp fo fe gb GF ov:=hI.cp hc (fun k hk hn=>hn (hO k hk))
theorem dL (hI:MIn w m M bp bo be fp fo fe gb GF ov) (hO:∀k,FMo M m bp bo be GF ov k→O k) (hl:∀k,O k→k < w.heap.size) {pid:Int} {p:Pr} (hp:M.pr pid = some p)
  {b6 b2 b3 d':Nat} {F':List Nat} {rl':List Ar.Rn} {x:Cl} {v:Value} (hc:Chg [] w w') (h6:Blk w' b6 109 #[.pointer (some ⟨d',0,none⟩)]) (h2:Blk w' b2 103 #[.pointer (some ⟨gb pid,0,none⟩)]) (h3:KB w' b3 x v)
  (hA:Ar.AMem w' d' rl' F') (hS:Ar.Sp rl') (hF:∀k∈F',w.heap.size≤k) (hn:w.heap.size≤b6∧w.heap.size≤b2∧w.heap.size≤b3) (hx:x.k = 4→0≤x.g∧x.g≤1024∧0≤x.c∧x.c≤1024) {p2:Pr}
  (oU:p2 = if x.k = 4 then { p with rl:=rl',pg:=fun q=>if inR x.g x.c q then none else p.pg q,ow:=fun q=>if inR x.g x.c q then none else p.ow q } else { p with rl:=rl' }) :
  Eff w w' m O X (.func (.func 98) #[] #[.pointer (some ⟨b6,0,none⟩),.pointer (some ⟨b2,0,none⟩),.pointer (some ⟨b3,0,none⟩)]) (some { M with pr:=upd M.pr pid (some p2) }):=by
 refine ⟨_,_,rfl,oc Tryz.func98 (by kernel_rfl) (by kernel_rfl),fun G W hG hW=>?_⟩
 have lF:=hG.cp hc hW
 refine (gU (hI.off hO lF) hO (fun k hk=>Nat.lt_of_lt_of_le (hl k hk) lF.size) hp (h6.chg hW (hG.new hn.1)) (h2.chg hW (hG.new hn.2.1)) (show KB W b3 x v from Blk.chg h3 hW (hG.new hn.2.2)) (hA.chg hW (fun k hk=>hG.new (hF k hk))) hS (fun k hk pJ=>by have:=hF k hk;have:=hl k pJ;omega) hx).mono ?_
 rintro e W' ⟨rfl,k1,O',k2,k3⟩
 rw [← oU] at k2
 exact ⟨rfl,k1.or,O',k2,fun k hk=>(k3 k hk).imp id (hF k)⟩
end
theorem sf {w:World} {m:Nat} {M:Mo} {O:Nat→Prop} {X:List Nat} {bp bo be:Nat} {fp fo fe:Int→Option Value} {gb:Int→Nat} {GF:Int→Nat→Prop} {ov:Int→Value}
  (hI:MIn w m M bp bo be fp fo fe gb GF ov) (hO:∀k,FMo M m bp bo be GF ov k→O k) (hl:∀k,O k→k < w.heap.size) {pid:Int} {p:Pr} (hp:M.pr pid = some p)
  {x:Cl} {v:Value} (hv:v.oneCell' = true) (hk:x.k = 3∨x.k = 4∨x.k = 5) (hx:x.k = 4→0≤x.g∧x.g≤1024∧0≤x.c∧x.c≤1024) :
  Calls Tryz.prog 68 #[.pointer (some ⟨gb pid,0,none⟩),.agg (clc x v)] w fun e w'=>AnsR w w' m O X (aq (ch p x).1,some { M with pr:=upd M.pr pid (some (ch p x).2) }) e∧Chg [] w w':=by
 obtain ⟨d,FA,qp,qo,gp',go',gp,hP,lH,pA⟩:=hI.pr pid p hp
 obtain ⟨W2,jB⟩:∃W2,W2 = ((w.alloc (.cells #[.pointer (some ⟨gb pid,0,none⟩)] 103)).alloc (.cells (clc x v) 47)).alloc (.cells (rsc zRs zV) 40):=⟨_,rfl⟩
 have jA:Chg [] w W2:=by rw [jB];exact (((Chg.refl [] w).alloc _).alloc _).alloc _
 have kU:Blk W2 w.heap.size 103 #[.pointer (some ⟨gb pid,0,none⟩)]:=by rw [jB];exact ((Blk.new w _ _).alloc _).alloc _
 have jS:KB W2 (w.heap.size+1) x v:=by
  have:=Blk.new (w.alloc (.cells #[.pointer (some ⟨gb pid,0,none⟩)] 103)) 47 (clc x v)
  rw [af] at this
  rw [jB]
  exact this.alloc _
 have kQ:XB W2 (w.heap.size+1+1) zRs zV:=by
  have:=Blk.new ((w.alloc (.cells #[.pointer (some ⟨gb pid,0,none⟩)] 103)).alloc (.cells (clc x v) 47)) 40 (rsc zRs zV)
  rw [af,af] at this
  rw [jB]
  exact this
 obtain ⟨b2,e2⟩:∃b,b = w.heap.size:=⟨_,rfl⟩
 obtain ⟨b3,e3⟩:∃b,b = w.heap.size+1:=⟨_,rfl⟩
 obtain ⟨b4,e4⟩:∃b,b = w.heap.size+1+1:=⟨_,rfl⟩
 rw [← e4] at kQ
 rw [← e3] at jS
 rw [← e2] at kU
 have HE:=ah (And.intro e2 (And.intro e3 e4))
 have rS:=ah (show PIn W2 (gb pid) p d FA qp qo gp' go' gp from hP.cp (CP.of0 (F:=fun _=>False) jA) (fun _ _ h=>h))
 have qY:=ah (fun (w':World) (b6 b2 b3 d':Nat) (F':List Nat) (rl':List Ar.Rn) (hc:Chg [] w w') (h6:Blk w' b6 109 #[.pointer (some ⟨d',0,none⟩)]) (h2:Blk w' b2 103 #[.pointer (some ⟨gb pid,0,none⟩)]) (h3:KB w' b3 x v) (hA:Ar.AMem w' d' rl' F') (hS:Ar.Sp rl') (hF:∀k∈F',w.heap.size≤k) (hn:w.heap.size≤b6∧w.heap.size≤b2∧w.heap.size≤b3) (p2:Pr)=>dL (X:=X) hI hO hl hp hc h6 h2 h3 hA hS hF hn hx (p2:=p2))
 have lI:=ah hP.sp
 have vA:=ah (fun W (hc:Chg [] W2 W)=>Ar.copy_at (rS.out.ar.stay hc) (by have:=hP.sp.len;omega))
 have nC:=ah kU
 have jY:=ah jS
 have jW:=ah kQ
 have jU:=ah jA
 have jP:=ah jB
 have HLB:=ah (And.intro kU.lt (And.intro (KB.cells jS).2.2.2.2.2.2.2.2.2.2.2.2.1 (XB.cells kQ).2.2.2.1))
 have q2:W2.cell? ⟨b2,0,none⟩ = some (.pointer (some ⟨gb pid,0,none⟩)):=by simpa using kU.cell 0
 have qA:W2.cell? ⟨gb pid,0,none⟩ = some (.pointer (some ⟨d,0,none⟩)):=by simpa [prc] using rS.out.blk.cell 0
 have l2:=kU.lt
 have lb:=rS.out.blk.lt
 clear hI hO hl hp hP lH pA kU jS kQ jA jB e2 e3 e4 hx
 go_enter Tryz.func68,Tryz.ntmps68
 go_upto_region 1 with (first|refine ax rfl _ rfl rfl ?_;try simp only [af]|refine bn rfl rfl ?_;try simp only [af];try rw [← jP.out])
 rw [← HE.out.2.2,← HE.out.2.1,← HE.out.1]
 go_wp2_with fail
 refine (vA.out W2 (Chg.refl _ _)).mono ?_
 rintro e W3 ⟨d',F',rfl,hA3,hF3,jD⟩
 have HA3:=ah hA3
 have jE:=ah (jU.out.stay jD)
 have hF2:=hF3
 have DS:=ah (show ∀k∈F',w.heap.size≤k from fun k hk=>ag jU.out.size (hF3 k hk))
 have EQ:=ah (nC.out.chg jD ab)
 have ER:=ah (KB.stay jY.out jD)
 have ES:=ah (XB.stay jW.out jD)
 clear hA3 hF3 jD nC jY jW jU q2 qA l2 lb vA
 have HF2:=ah hF2
 have nB:=ah (fun e W=>kh e W)
 go_upto_region 3 with (fail)
 have kV:=Blk.new W3 109 #[.pointer (some ⟨d',0,none⟩)]
 have iZ:Chg [] W3 (W3.alloc (.cells #[.pointer (some ⟨d',0,none⟩)] 109)):=(Chg.refl [] W3).alloc _
 obtain ⟨b6,e6⟩:∃b,b = W3.heap.size:=⟨_,rfl⟩
 have h6n:∀k∈F',k < b6:=fun k hk=>by rw [e6];exact HA3.out.lt k hk
 have HE6:=ah (show w.heap.size≤b6 by rw [e6];exact jE.out.size)
 rw [← e6] at kV ⊢
 clear e6
 generalize W3.alloc (.cells #[.pointer (some ⟨d',0,none⟩)] 109) = W4 at kV iZ ⊢
 have HA4:=ah (HA3.out.stay iZ)
 have jR:=ah (jE.out.stay iZ)
 have Ce:=ah (EQ.out.chg iZ ab)
 have Az:=ah (KB.stay ER.out iZ)
 have vX:=ah (XB.stay ES.out iZ)
 have Cg:=ah kV
 have nb2:b2∉F':=fun h=>by have:=HF2.out b2 h;have:=HLB.out;omega
 have nb3:b3∉F':=fun h=>by have:=HF2.out b3 h;have:=HLB.out;omega
 have nb4:b4∉F':=fun h=>by have:=HF2.out b4 h;have:=HLB.out;omega
 have nb6:b6∉F':=fun h=>by have:=h6n b6 h;omega
 have oL:=ah (And.intro nb2 (And.intro nb3 (And.intro nb4 nb6)))
 have q6:W4.cell? ⟨b6,0,none⟩ = some (.pointer (some ⟨d',0,none⟩)):=by simpa using kV.cell 0
 have l6:=kV.lt
 obtain ⟨c0,-,-,c3,c4,-,-,c7,-,-,-,-,l3,-⟩:=KB.cells Az.out
 clear kV iZ h6n nb2 nb3 nb4 nb6 HA3 jE EQ ER ES
 rcases hk with hk | hk | hk
 ·have tN:=ah (show ch p x = (Ar.mapE p.rl x.g x.c x.r,_) by unfold ch;rw [if_pos hk])
  have HK:=ah hk
  rw [hk] at c0
  clear hk
  go_wp2_with fail
  refine (Ar.map_at HA4.out lI.out x.g x.c (x.r:Int)).mono ?_
  rintro e W5 ⟨rfl,⟨F'',hA5,sO⟩,U⟩
  have EP:=ah hA5
  have Fa:=ah (show ∀k∈F'',w.heap.size≤k from fun k hk=>(sO k hk).elim (DS.out k) (fun h=>ag jR.out.size h))
  have jL:=ah (show Chg [] w W5 from jR.out.trans U (fun k hk=>.inr (DS.out k hk)))
  have Cz:=ah (show ∀k∈F'',k≠b4 from fun k hk e=>(sO k hk).elim (fun h=>oL.out.2.2.1 (e ▸ h)) (fun h=>by have:=(XB.cells vX.out).2.2.2.1;omega))
  have xH:=ah (Ce.out.chg U oL.out.1)
  have xI:=ah (show KB W5 b3 x v from Blk.chg Az.out U oL.out.2.1)
  have sR:=ah (show XB W5 b4 zRs zV from Blk.chg vX.out U oL.out.2.2.1)
  have pW:=ah (Cg.out.chg U oL.out.2.2.2)
  clear hA5 sO U c0 c3 c4 c7 l3 q6 l6
  go_wp2_with fail
  refine (nB.out _ _).mono ?_
  rintro e W6 ⟨rfl,iZ⟩
  have xJ:=ah (XB.stay sR.out iZ)
  have kR:=ah iZ
  clear iZ
  generalize hEE:Ar.mapE p.rl x.g x.c x.r = EE at *
  go_wp2_with (first|refine au (b:=b4) (y:=aq EE) (u:=zV) rfl _ _ rfl rfl rfl rfl xJ.out ?_;intro W7 h7 jI)
  have mA:Chg [b4] W5 W7:=(kR.out.up [b4]).and_ jI
  have lF:Chg [] w W7:=(jL.out.stay kR.out).trans jI (fun y hy=>.inr (by obtain rfl:=aa hy;have:=HE.out;omega))
  have he:=HE.out
  have h6:=pW.out
  refine bodyPost_ret (v:=.tuple #[.agg (rsc (aq EE) zV),.func (.func 98) #[] #[.pointer (some ⟨b6,0,none⟩),.pointer (some ⟨b2,0,none⟩),.pointer (some ⟨b3,0,none⟩)]]) (bf (p:=4) (q:=5) rfl _ rfl h7) rfl ⟨?_,lF⟩
  rw [tN.out]
  have n4:b6≠b4:=Blk.ne_ pW.out sR.out (by decide)
  have nA:=Cz.out
  exact ⟨none,0,0,_,rfl,RE.nil _ _ _ _ _,(fun _ h=>(bw h).elim),qY.out W7 b6 b2 b3 d' F'' _ lF (pW.out.chg mA (by simpa using n4)) (xH.out.chg mA (by simp;omega)) (Blk.chg xI.out mA (by simp;omega)) (EP.out.chg mA (fun k hk=>by simpa using nA k hk)) (lI.out.map x.g x.c (x.r:Int)) Fa.out ⟨HE6.out,by omega,by omega⟩ _ (by rw [if_neg (by rw [HK.out];decide)])⟩
 ·have tN:=ah (show ch p x = (Ar.unE p.rl x.g x.c,_) by unfold ch;rw [if_neg (by omega),if_pos hk])
  have HK:=ah hk
  rw [hk] at c0
  clear hk
  go_wp2_with fail
  refine (Ar.un_at HA4.out lI.out x.g x.c).mono ?_
  rintro e W5 ⟨rfl,⟨F'',hA5,sO⟩,U⟩
  have EP:=ah hA5
  have Fa:=ah (show ∀k∈F'',w.heap.size≤k from fun k hk=>(sO k hk).elim (DS.out k) (fun h=>ag jR.out.size h))
  have jL:=ah (show Chg [] w W5 from jR.out.trans U (fun k hk=>.inr (DS.out k hk)))
  have Cz:=ah (show ∀k∈F'',k≠b4 from fun k hk e=>(sO k hk).elim (fun h=>oL.out.2.2.1 (e ▸ h)) (fun h=>by have:=(XB.cells vX.out).2.2.2.1;omega))
  have xH:=ah (Ce.out.chg U oL.out.1)
  have xI:=ah (show KB W5 b3 x v from Blk.chg Az.out U oL.out.2.1)
  have sR:=ah (show XB W5 b4 zRs zV from Blk.chg vX.out U oL.out.2.2.1)
  have pW:=ah (Cg.out.chg U oL.out.2.2.2)
  clear hA5 sO U c0 c3 c4 c7 l3 q6 l6
  go_wp2_with fail
  refine (nB.out _ _).mono ?_
  rintro e W6 ⟨rfl,iZ⟩
  have xJ:=ah (XB.stay sR.out iZ)
  have kR:=ah iZ
  clear iZ
  generalize hEE:Ar.unE p.rl x.g x.c = EE at *
  go_wp2_with (first|refine au (b:=b4) (y:=aq EE) (u:=zV) rfl _ _ rfl rfl rfl rfl xJ.out ?_;intro W7 h7 jI)
  have mA:Chg [b4] W5 W7:=(kR.out.up [b4]).and_ jI
  have lF:Chg [] w W7:=(jL.out.stay kR.out).trans jI (fun y hy=>.inr (by obtain rfl:=aa hy;have:=HE.out;omega))
  have he:=HE.out
  have h6:=pW.out
  refine bodyPost_ret (v:=.tuple #[.agg (rsc (aq EE) zV),.func (.func 98) #[] #[.pointer (some ⟨b6,0,none⟩),.pointer (some ⟨b2,0,none⟩),.pointer (some ⟨b3,0,none⟩)]]) (bf (p:=4) (q:=5) rfl _ rfl h7) rfl ⟨?_,lF⟩
  rw [tN.out]
  have n4:b6≠b4:=Blk.ne_ pW.out sR.out (by decide)
  have nA:=Cz.out
  exact ⟨none,0,0,_,rfl,RE.nil _ _ _ _ _,(fun _ h=>(bw h).elim),qY.out W7 b6 b2 b3 d' F'' _ lF (pW.out.chg mA (by simpa using n4)) (xH.out.chg mA (by simp;omega)) (Blk.chg xI.out mA (by simp;omega)) (EP.out.chg mA (fun k hk=>by simpa using nA k hk)) (lI.out.un x.g x.c) Fa.out ⟨HE6.out,by omega,by omega⟩ _ (by rw [if_pos HK.out])⟩
 ·have tN:=ah (show ch p x = (Ar.prE p.rl x.g x.c x.r,_) by unfold ch;rw [if_neg (by omega),if_neg (by omega)])
  have HK:=ah hk
  rw [hk] at c0
  clear hk
  go_wp2_with fail
  refine (Ar.pr_at HA4.out lI.out x.g x.c (x.r:Int)).mono ?_
  rintro e W5 ⟨rfl,⟨F'',hA5,sO⟩,U⟩
  have EP:=ah hA5
  have Fa:=ah (show ∀k∈F'',w.heap.size≤k from fun k hk=>(sO k hk).elim (DS.out k) (fun h=>ag jR.out.size h))
  have jL:=ah (show Chg [] w W5 from jR.out.trans U (fun k hk=>.inr (DS.out k hk)))
  have Cz:=ah (show ∀k∈F'',k≠b4 from fun k hk e=>(sO k hk).elim (fun h=>oL.out.2.2.1 (e ▸ h)) (fun h=>by have:=(XB.cells vX.out).2.2.2.1;omega))
  have xH:=ah (Ce.out.chg U oL.out.1)
  have xI:=ah (show KB W5 b3 x v from Blk.chg Az.out U oL.out.2.1)
  have sR:=ah (show XB W5 b4 zRs zV from Blk.chg vX.out U oL.out.2.2.1)
  have pW:=ah (Cg.out.chg U oL.out.2.2.2)
  clear hA5 sO U c0 c3 c4 c7 l3 q6 l6
  go_wp2_with fail
  refine (nB.out _ _).mono ?_
  rintro e W6 ⟨rfl,iZ⟩
  have xJ:=ah (XB.stay sR.out iZ)
  have kR:=ah iZ
  clear iZ
  generalize hEE:Ar.prE p.rl x.g x.c x.r = EE at *
  go_wp2_with (first|refine au (b:=b4) (y:=aq EE) (u:=zV) rfl _ _ rfl rfl rfl rfl xJ.out ?_;intro W7 h7 jI)
  have mA:Chg [b4] W5 W7:=(kR.out.up [b4]).and_ jI
  have lF:Chg [] w W7:=(jL.out.stay kR.out).trans jI (fun y hy=>.inr (by obtain rfl:=aa hy;have:=HE.out;omega))
  have he:=HE.out
  have h6:=pW.out
  refine bodyPost_ret (v:=.tuple #[.agg (rsc (aq EE) zV),.func (.func 98) #[] #[.pointer (some ⟨b6,0,none⟩),.pointer (some ⟨b2,0,none⟩),.pointer (some ⟨b3,0,none⟩)]]) (bf (p:=4) (q:=5) rfl _ rfl h7) rfl ⟨?_,lF⟩
  rw [tN.out]
  have n4:b6≠b4:=Blk.ne_ pW.out sR.out (by decide)
  have nA:=Cz.out
  exact ⟨none,0,0,_,rfl,RE.nil _ _ _ _ _,(fun _ h=>(bw h).elim),qY.out W7 b6 b2 b3 d' F'' _ lF (pW.out.chg mA (by simpa using n4)) (xH.out.chg mA (by simp;omega)) (Blk.chg xI.out mA (by simp;omega)) (EP.out.chg mA (fun k hk=>by simpa using nA k hk)) (lI.out.pr x.g x.c (x.r:Int)) Fa.out ⟨HE6.out,by omega,by omega⟩ _ (by rw [if_neg (by rw [HK.out];decide)])⟩
end Go.Proofs.YtfoleblcaloeoaaGreatDoor
