/- Texts merged for the claim. -/
import Derived.Test.YtfoleblcaloeoaaGreatDoorZau
import Derived.Laws.CopyRow
set_option maxHeartbeats 40000000
set_option maxRecDepth 20000
namespace Go.Proofs.YtfoleblcaloeoaaGreatDoor
open Go Go.RowKit
theorem info5s:(Tryz.prog.info? 5).map (·.size) = some 1:=by kernel_rfl
theorem PgB.copy {w:World} {pb an:Nat} {B l:List Nat} {v:Value} (h:PgB w pb B) (hv:RB w v l) (h1:1≤l.length) (hn:an+l.length≤256) (hl:∀x∈l,x < 256) :
  ∃w' u,(∀ty,(Builtin.copy_ #[38,38] ty #[.slice (some ⟨pb,an,none⟩) (256 - an) (256 - an),v]).run Tryz.prog w = .ok u w')∧PgB w' pb (cj B an l)∧Chg [pb] w w':=by
 obtain ⟨A,c,rfl⟩:=RE.form hv
 obtain ⟨g,off,rfl⟩:=RE.addr hv (by omega)
 have jN:=h.len
 have An:(fc ucl l).length = l.length:=by rw [mv,List.length_map]
 have lY:(pgc B).size = 256:=by unfold pgc;simp [jN]
 have DD:∀j u,(fc ucl l)[j]? = some u→w.cell? ((⟨g,off,none⟩:Addr).add j) = some u:=fun j u hu=>by
  obtain ⟨_,A',c',e,_,AZ⟩:=hv
  obtain ⟨g2,off2,e',hc⟩:=AZ (by omega)
  rw [e'] at e
  injection e with e _ _
  injection e with e
  injection e with ea eb
  subst ea;subst eb
  rw [Addr.add_lit]
  exact hc j u hu
 have e1:((pgc B).toList.take an ++ fc ucl l ++ (pgc B).toList.drop (an+(fc ucl l).length)).toArray = pgc (cj B an l):=by
  rw [An]
  unfold pgc cj
  rw [mv]
  simp [List.map_take,List.map_drop]
 refine ⟨_,_,fun ty=>run_copy_row Tryz.prog w 38 38 ty 5 pb an (256 - an) (256 - an) ⟨g,off,none⟩ l.length c (pgc B) _ (fc ucl l) Tryz.underlying38 info5s h.blk (by rw [An];exact (Nat.min_eq_left (by omega)).symm) DD (by rw [An];omega) (vq l),?_,?_⟩
 ·refine ⟨?_,by rw [nb (by omega)];exact jN,zq h.b8 hl⟩
  have:=setRow_heap w pb _ ((pgc B).toList.take an ++ fc ucl l ++ (pgc B).toList.drop (an+(fc ucl l).length)).toArray _ _ h.blk
  rw [e1] at this ⊢
  exact this
 ·exact (Chg.refl [pb] w).setRow (.inl (by simp)) _
theorem uz {o:Oper} {a:Act} {w w':World} {K:Act→World→Prop} {Q:Exit→Act→World→Prop} (s x:Operand) (ho:o.op = .call { callee:=.builtin .copy,args:=#[s,x],argTypes:=#[38,38] })
  {v y u:Value} (hs:a.eval s = v) (hx:a.eval x = y) (oD:∀ty,(Builtin.copy_ #[38,38] ty #[v,y]).run Tryz.prog w = .ok u w') (h:K (a.put o.dst u) w'):o.wp Tryz.prog a w K Q:=by
 unfold Oper.wp execOp
 simp only [ho,resolve,invoke,builtin,Sem.run_bind,Sem.run_pure,Result.andThen_ok,List.map_toArray,List.map_cons,List.map_nil,hs,hx,oD]
 exact h
theorem gL {w:World} {m:Nat} {M:Mo} {O:Nat→Prop} {bp bo be:Nat} {fp fo fe:Int→Option Value} {gb:Int→Nat} {GF:Int→Nat→Prop} {ov:Int→Value}
  (hI:MIn w m M bp bo be fp fo fe gb GF ov) (hO:∀k,FMo M m bp bo be GF ov k→O k) (hl:∀k,O k→k < w.heap.size) {pid:Int} {p:Pr} (hp:M.pr pid = some p)
  {d:Nat} {FA:List Nat} {qp qo:Nat} {gp' go':Int→Option Value} {gp:Int→Nat} (hP:PIn w (gb pid) p d FA qp qo gp' go' gp) (lH:∀k,FPr p (gb pid) FA qp qo gp k→GF pid k) (pA:∀k,GF pid k→k < w.heap.size)
  {b11 b7 b3 b2 b6 pb an:Nat} {pg:Int} {B':List Nat} {x:Cl} {v:Value} (tJ:(∃B,p.pg pg = some B∧pb = gp pg)∨(p.pg pg = none∧¬ O pb)) (hB:PgB w pb B')
  (mM:Blk w b11 115 #[.pointer (some ⟨pb,0,none⟩)]) (h7:Blk w b7 3 #[.int .i64 (an:Nat)]) (h3:KB w b3 x v) (h2:Blk w b2 103 #[.pointer (some ⟨gb pid,0,none⟩)]) (h6:Blk w b6 3 #[.int .i64 pg])
  (hv:RB w v x.l) (h1:1≤x.l.length) (hn:an+x.l.length≤256) (rM:∀y∈x.l,y < 256) :
  Calls Tryz.prog 99 #[.pointer (some ⟨b11,0,none⟩),.pointer (some ⟨b7,0,none⟩),.pointer (some ⟨b3,0,none⟩),.pointer (some ⟨b2,0,none⟩),.pointer (some ⟨b6,0,none⟩)] w fun e W'=>e = .returned (.tuple #[])∧CP (fun k=>O k∨k = pb) w W' ∧
   ∃O',MMem W' m { M with pr:=upd M.pr pid (some { p with pg:=upd p.pg pg (some (cj B' an x.l)) }) } O'∧∀k,O' k→O k∨k = pb:=by
 have H99D:=ah (fun W (hc:Chg [pb,qp] w W) (hB2:PgB W pb (cj B' an x.l))=>@dI w W m M O bp bo be fp fo fe gb GF ov hI hO hl pid p hp d FA qp qo gp' go' gp hP lH pA pg (cj B' an x.l) pb tJ ⟨B',hB⟩ hc hB2)
 obtain ⟨W5,u5,oD,AX,U⟩:=PgB.copy (w:=w.drew) (show PgB w.drew pb B' from ⟨hB.blk,hB.len,hB.b8⟩) (show RB w.drew v x.l from hv) h1 hn rM
 have q11:w.cell? ⟨b11,0,none⟩ = some (.pointer (some ⟨pb,0,none⟩)):=by simpa using mM.cell 0
 have q7:w.cell? ⟨b7,0,none⟩ = some (.int .i64 (an:Nat)):=by simpa using h7.cell 0
 have q3:=(KB.cells h3).2.2.2.2.2.2.2.2.2.2.2.1
 have l11:=mM.lt
 have l7:=h7.lt
 have l3:=h3.lt
 have lpb:=hB.blk.lt
 have n1:(0:Int)≤(an:Int):=by omega
 have n2:(an:Int)≤256:=by omega
 have n3:¬ (an:Int) = 256:=by omega
 have n4:¬ an = 256:=by omega
 have pE:=fun W=>eN (pb:=pb) (show an < 256 by omega) W
 have nZ:=ah oD
 have mX:=ah AX
 have jL:=ah U
 have Gs:MapB W5 qp .i64 gp':=(show MapB w.drew qp .i64 gp' from hP.mp).chg U (fun e=>Blk.ne_map hB.blk hP.mp (aa e).symm)
 have sE:=ah (show MapB W5.drew qp .i64 gp' from Gs)
 have h25:Blk W5 b2 103 #[.pointer (some ⟨gb pid,0,none⟩)]:=(show Blk w.drew b2 _ _ from h2).chg U (by simp;exact Blk.ne_ h2 hB.blk (by decide))
 have CL:Blk W5 b6 3 #[.int .i64 pg]:=(show Blk w.drew b6 _ _ from h6).chg U (by simp;exact Blk.ne_ h6 hB.blk (by decide))
 have FD:Blk W5 b11 115 #[.pointer (some ⟨pb,0,none⟩)]:=(show Blk w.drew b11 _ _ from mM).chg U (by simp;exact Blk.ne_ mM hB.blk (by decide))
 have Gi:Blk W5 (gb pid) 113 (prc d qp qo p):=(show Blk w.drew (gb pid) _ _ from hP.blk).chg U (by simp;exact (Blk.ne_ hB.blk hP.blk (by decide)).symm)
 have HQ:=ah (And.intro h25 (And.intro CL (And.intro FD Gi)))
 have HNQ:=ah (show pb≠qp from Blk.ne_map hB.blk hP.mp)
 generalize cj B' an x.l = B2 at *
 clear Gs hI hO hl hp hP lH pA tJ hB mM h7 h3 h2 h6 hv h1 hn rM oD AX U h25 CL FD Gi
 go_enter Tryz.func99,Tryz.ntmps99
 go_upto_region 0 with (fail)
 refine rgn7 [1,0,1,0,0,1,3] ?_
 go_wp2_with (first|refine ao fun K I=>?_;refine uz _ _ rfl rfl rfl nZ.out ?_;refine I _ _ ?_;clear I K|refine av fun K I=>?_|refine ai fun K I=>?_;go_simp;refine I _ _ ?_;clear I K|refine ao fun K I=>?_;go_simp|refine aj ?_)
 clear q11 q7 q3 l11 l7 l3 lpb
 have q2:W5.cell? ⟨b2,0,none⟩ = some (.pointer (some ⟨gb pid,0,none⟩)):=by simpa using HQ.out.1.cell 0
 have q6:W5.cell? ⟨b6,0,none⟩ = some (.int .i64 pg):=by simpa using HQ.out.2.1.cell 0
 have q11:W5.cell? ⟨b11,0,none⟩ = some (.pointer (some ⟨pb,0,none⟩)):=by simpa using HQ.out.2.2.1.cell 0
 have qp1:W5.cell? ⟨gb pid,1,none⟩ = some (.map (some qp)):=by simpa [prc] using HQ.out.2.2.2.cell 1
 have l2:=HQ.out.1.lt
 have l6:=HQ.out.2.1.lt
 have l11:=HQ.out.2.2.1.lt
 have lb:=HQ.out.2.2.2.lt
 refine rgn7 [1,0,0,1,1,1,3] ?_
 go_wp2_with (first|refine ao fun K I=>?_;refine fd _ _ _ rfl Tryz.underlying110 Tryz.underlying3 rfl rfl rfl sE.out ?_;intro W6 h6 iZ;refine I _ _ ?_;clear I K|refine av fun K I=>?_|refine ai fun K I=>?_;go_simp;refine I _ _ ?_;clear I K|refine ao fun K I=>?_;go_simp|refine aj ?_)
 go_end0
 have lF:Chg [pb,qp] w W6:=((((Chg.refl [] w).drew).then_ (jL.out)).drew.mono (fun y hy=>.inl (by simp at hy;simp [hy]))).trans iZ (fun y hy=>.inl (by simp at hy;simp [hy]))
 exact ⟨rfl,H99D.out W6 lF (by
  have:=HNQ.out
  exact ⟨(show Blk W5.drew pb _ _ from mX.out.blk).chg iZ (by simpa using this),mX.out.len,mX.out.b8⟩) h6⟩
theorem iW {w:World} {m:Nat} {M:Mo} {O:Nat→Prop} {X:List Nat} {bp bo be:Nat} {fp fo fe:Int→Option Value} {gb:Int→Nat} {GF:Int→Nat→Prop} {ov:Int→Value}
  (hI:MIn w m M bp bo be fp fo fe gb GF ov) (hO:∀k,FMo M m bp bo be GF ov k→O k) (hl:∀k,O k→k < w.heap.size) {pid:Int} {p:Pr} (hp:M.pr pid = some p)
  {x:Cl} {v:Value} (hk:x.k = 9) (hx:0≤x.a∧x.a < 262144∧1≤x.l.length∧x.a % 256+x.l.length≤256) (hv:RB w v x.l) (hX:x.l≠[]→∀k∈own v,k∈X) (rM:∀y∈x.l,y < 256) :
  Calls Tryz.prog 69 #[.pointer (some ⟨gb pid,0,none⟩),.agg (clc x v)] w fun e w'=>AnsR w w' m O X ((cx p x).1,(cx p x).2.map fun q=>{ M with pr:=upd M.pr pid (some q) }) e∧Chg [] w w':=by
 obtain ⟨d,FA,qp,qo,gp',go',gp,hP,lH,pA⟩:=hI.pr pid p hp
 obtain ⟨W2,jB⟩:∃W2,W2 = ((w.alloc (.cells #[.pointer (some ⟨gb pid,0,none⟩)] 103)).alloc (.cells (clc x v) 47)).alloc (.cells (rsc zRs zV) 40):=⟨_,rfl⟩
 have jA:Chg [] w W2:=by rw [jB];exact (((Chg.refl [] w).alloc _).alloc _).alloc _
 have kU:Blk W2 w.heap.size 103 #[.pointer (some ⟨gb pid,0,none⟩)]:=by rw [jB];exact ((Blk.new w _ _).alloc _).alloc _
 have jS:KB W2 (w.heap.size+1) x v:=by
  have:=Blk.new (w.alloc (.cells #[.pointer (some ⟨gb pid,0,none⟩)] 103)) 47 (clc x v)
  rw [af] at this
  rw [jB]
  exact this.alloc _
 have kQ:XB W2 (w.heap.size+1+1) zRs zV:=by
  have:=Blk.new ((w.alloc (.cells #[.pointer (some ⟨gb pid,0,none⟩)] 103)).alloc (.cells (clc x v) 47)) 40 (rsc zRs zV)
  rw [af,af] at this
  rw [jB]
  exact this
 obtain ⟨b2,e2⟩:∃b,b = w.heap.size:=⟨_,rfl⟩
 obtain ⟨b3,e3⟩:∃b,b = w.heap.size+1:=⟨_,rfl⟩
 obtain ⟨b4,e4⟩:∃b,b = w.heap.size+1+1:=⟨_,rfl⟩
 rw [← e4] at kQ
 rw [← e3] at jS
 rw [← e2] at kU
 have HE:=ah (And.intro e2 (And.intro e3 e4))
 have HP:=ah (fun W (h:Chg [] W2 W)=>(show PIn W (gb pid) p d FA qp qo gp' go' gp from hP.cp (CP.of0 (F:=fun _=>False) (jA.stay h)) (fun _ _ h=>h)))
 have nC:=ah (fun W (h:Chg [] W2 W)=>kU.chg h ab)
 have jY:=ah (fun W (h:Chg [] W2 W)=>KB.stay jS h)
 have jW:=ah kQ
 have jU:=ah jA
 have jP:=ah jB
 obtain ⟨pg,tQ⟩:∃z:Int,z = x.a / 256:=⟨_,rfl⟩
 obtain ⟨an,rL⟩:∃z:Nat,(z:Int) = x.a % 256:=⟨(x.a % 256).toNat,by omega⟩
 obtain ⟨sn,qK⟩:∃z:Nat,z = x.l.length:=⟨_,rfl⟩
 have HB:=ah (show an+sn≤256 by omega)
 have HN:=ah (show 1≤x.l.length∧an+x.l.length≤256 by omega)
 have t1:(x.a % 256).toNat = an:=by omega
 have hsn0:sn≤256:=by omega
 have han0:an≤256:=by omega
 have vS:wrap64 (x.a.tdiv 256) = pg:=by rw [tQ,Int.tdiv_eq_ediv_of_nonneg hx.1];unfold wrap64;omega
 have mD:wrap64 (x.a.tmod 256) = (an:Int):=by clear vS;rw [rL,Int.tmod_eq_emod_of_nonneg hx.1];unfold wrap64;omega
 have Ew:x.a.tmod 256 = (an:Int):=by clear vS mD;rw [rL,Int.tmod_eq_emod_of_nonneg hx.1]
 have Bn:wrap64 ((an:Int)+(sn:Int)) = (an:Int)+(sn:Int):=by clear vS mD;unfold wrap64;omega
 have Bv:=ah (show (((cx p x).1,(cx p x).2.map fun q=>{ M with pr:=upd M.pr pid (some q) }):Rs × Option Mo) = (if Ar.rt p.rl pg = 0 then (aq 7,none) else if Ar.rt p.rl pg < 2 then (aq 190,none) else (aq 0,some { M with pr:=upd M.pr pid (some { p with pg:=upd p.pg pg (some (cj ((p.pg pg).getD zeroPg) an x.l)) }) })) by
  unfold cx
  rw [← tQ,t1,hk]
  simp only [show (9:Nat)≠8 by decide,if_false]
  split
  ·rfl
  ·split <;> rfl)
 have qY:=ah (fun (W:World) (w':World) (G:List Nat) (hG:Off w O X G) (hc:Chg [] w w') (hW:Chg G w' W) b11 b7 b3 b2 b6 pb B' (tJ:(∃B,p.pg pg = some B∧pb = gp pg)∨(p.pg pg = none∧w.heap.size≤pb)) (hB:PgB W pb B') (mM:Blk W b11 115 #[.pointer (some ⟨pb,0,none⟩)]) (h7:Blk W b7 3 #[.int .i64 (an:Nat)]) (h3:KB W b3 x v) (h2:Blk W b2 103 #[.pointer (some ⟨gb pid,0,none⟩)]) (h6:Blk W b6 3 #[.int .i64 pg]) =>
  gL (hI.off hO (hG.cp hc hW)) hO (fun k hk=>Nat.lt_of_lt_of_le (hl k hk) (hG.cp hc hW).size) hp (hP.cp (hG.cp hc hW) (fun k hk hn=>hn (hO k (.inr (.inr (.inr (.inr (.inl ⟨pid,p,hp,lH k hk⟩)))))))) lH (fun k hk=>Nat.lt_of_lt_of_le (pA k hk) (hG.cp hc hW).size) (tJ.imp id (fun h=>⟨h.1,fun ho=>Nat.not_lt.2 h.2 (hl _ ho)⟩)) hB mM h7 h3 h2 h6 ((hv.stay hc).chg hW (fun k hk=>hG.out (hX (fun h=>by rw [h] at hx;simp at hx) k hk))) HN.out.1 HN.out.2 rM)
 have HEO:=ah (show ∀k pb,O k∨k = pb→w.heap.size≤pb∨(∃B,p.pg pg = some B∧pb = gp pg)→O k∨w.heap.size≤k from fun k pb h1 h2=>by
  rcases h1 with h1 | rfl
  ·exact .inl h1
  ·rcases h2 with h2 | ⟨B,h2,h3⟩
   ·exact .inr h2
   ·exact .inl (h3 ▸ hO _ (.inr (.inr (.inr (.inr (.inl ⟨pid,p,hp,lH _ (.inr (.inr (.inr (.inr ⟨pg,B,h2,rfl⟩))))⟩)))))))
 have HK:=ah hk
 have tB:=ah (show ∀pb,(∃B,p.pg pg = some B∧pb = gp pg)→O pb from fun pb ⟨B,h2,h3⟩=>h3 ▸ hO _ (.inr (.inr (.inr (.inr (.inl ⟨pid,p,hp,lH _ (.inr (.inr (.inr (.inr ⟨pg,B,h2,rfl⟩))))⟩))))))
 obtain ⟨B',wE⟩:∃B,B = (p.pg pg).getD zeroPg:=⟨_,rfl⟩
 rw [← wE] at Bv
 obtain ⟨pa,th,zH⟩:∃(pa:Option Addr) (th:Bool),(th = true∧pa = some ⟨gp pg,0,none⟩∧p.pg pg = some B')∨(th = false∧pa = none∧p.pg pg = none∧B' = zeroPg):=by
  cases h:p.pg pg with
  | some B=>exact ⟨_,true,.inl ⟨rfl,rfl,by rw [wE,h];rfl⟩⟩
  | none=>exact ⟨_,false,.inr ⟨rfl,rfl,rfl,by rw [wE,h];rfl⟩⟩
 have oE:=ah zH
 have rA:=ah (show ∀W,Chg [] W2 W→(Instr.lookup 110 (.map (some qp)) (.int .i64 pg) true).run Tryz.prog W = .ok (.tuple #[.pointer pa,.bool th]) W from fun W h=>by
  rcases zH with ⟨rfl,rfl,hb⟩ | ⟨rfl,rfl,hb,-⟩
  ·exact dy Tryz.underlying110 Tryz.underlying3 (HP.out W h).mp (by rw [(HP.out W h).hp,hb];rfl) true
  ·exact ej Tryz.underlying110 Tryz.underlying3 (HP.out W h).mp (by rw [(HP.out W h).hp,hb];rfl) (fE W) true)
 have AP:=ah (fun W (h:Chg [] W2 W)=>Ar.rights_at (HP.out W h).ar hP.sp pg)
 clear hI hO hl hv hX rM hp hP lH pA kU jS kQ jA jB e2 e3 e4 hx zH wE tQ rL hk t1
 obtain ⟨c0,-,-,-,-,c5,c6,-,-,-,-,-,l3,-⟩:=KB.cells (jY.out W2 (Chg.refl _ _))
 clear c0 c6
 go_enter Tryz.func69,Tryz.ntmps69
 go_upto_region 1 with (first|refine ax rfl _ rfl rfl ?_;try simp only [af]|refine bn rfl rfl ?_;try simp only [af];try rw [← jP.out])
 rw [← HE.out.2.2,← HE.out.2.1,← HE.out.1]
 go_cut [6,7] from 13 to 18 (fun z6 z7 W=>∃b6 b7,z6 = .pointer (some ⟨b6,0,none⟩)∧z7 = .pointer (some ⟨b7,0,none⟩)∧Blk W b6 3 #[.int .i64 pg]∧Blk W b7 3 #[.int .i64 (an:Nat)]∧Chg [] W2 W∧W2.heap.size≤b6∧W2.heap.size≤b7)
 case first =>
  refine ku [0,5,0,0,5,0,6,6,6,3] [none,none,none,none,none,none,none,none,none,none] [[0,1,2,3,4,5,6,7,8,9],[0,1,2,3,4,5,7,6,8,9]] (fun W=>Chg [] W2 W) (by kernel_rfl) (by kernel_rfl) (by kernel_rfl) (by kernel_rfl) (fun L9 nQ=>?_)
  have hS:Chg [] W2 W2.drew:=(Chg.refl [] W2).drew
  generalize W2.drew = W0 at hS ⊢
  simp only [List.mem_cons,List.mem_nil_iff,or_false] at nQ
  rcases nQ with rfl | rfl
  ·simp only [dt,List.filterMap_cons,List.filterMap_nil,List.getElem?_cons_succ,List.getElem?_cons_zero]
   go_wp2_with (first|refine al 3 _ rfl rfl (fun w' J=>cr Tryz.underlying3 (KB.cells (jY.out w' J)).2.2.2.2.2.1) hS ?_|refine av fun K I=>?_|refine ai fun K I=>?_;go_simp;refine I _ _ ?_;clear I K|refine ao fun K I=>?_;go_simp|refine aj ?_)
   (refine aw hS fun K I=>?_)
   go_simp
   refine I _ _ (hS.alloc _) ?_
   clear I K
   (refine aw (hS.alloc _) fun K I=>?_)
   go_simp
   refine I _ _ ((hS.alloc _).alloc _) ?_
   clear I K
   go_wp2_with (first|refine av fun K I=>?_|refine ai fun K I=>?_;go_simp;refine I _ _ ?_;clear I K|refine ao fun K I=>?_;go_simp|refine aj ?_)
   (refine aw ((hS.alloc _).alloc _) fun K I=>?_)
   go_simp
   refine I _ _ ((hS.alloc _).alloc _) ?_
   clear I K
   go_wp2_with (first|refine av fun K I=>?_|refine ai fun K I=>?_;go_simp;refine I _ _ ?_;clear I K|refine ao fun K I=>?_;go_simp|refine aj ?_)
   go_meet
   case rel=>exact ⟨_,_,rfl,rfl,((Blk.new W0 3 #[.int .i64 pg]).alloc _),(by have h:=Blk.new (W0.alloc (.cells #[.int .i64 pg] 3)) 3 #[.int .i64 (an:Nat)];rwa [af] at h),(hS.alloc _).alloc _,hS.size,Nat.le_succ_of_le hS.size⟩
  ·simp only [dt,List.filterMap_cons,List.filterMap_nil,List.getElem?_cons_succ,List.getElem?_cons_zero]
   go_wp2_with (first|refine al 3 _ rfl rfl (fun w' J=>cr Tryz.underlying3 (KB.cells (jY.out w' J)).2.2.2.2.2.1) hS ?_|refine av fun K I=>?_|refine ai fun K I=>?_;go_simp;refine I _ _ ?_;clear I K|refine ao fun K I=>?_;go_simp|refine aj ?_)
   (refine aw hS fun K I=>?_)
   go_simp
   refine I _ _ (hS.alloc _) ?_
   clear I K
   (refine aw (hS.alloc _) fun K I=>?_)
   go_simp
   refine I _ _ ((hS.alloc _).alloc _) ?_
   clear I K
   go_wp2_with (first|refine av fun K I=>?_|refine ai fun K I=>?_;go_simp;refine I _ _ ?_;clear I K|refine ao fun K I=>?_;go_simp|refine aj ?_)
   (refine aw ((hS.alloc _).alloc _) fun K I=>?_)
   go_simp
   refine I _ _ ((hS.alloc _).alloc _) ?_
   clear I K
   go_wp2_with (first|refine av fun K I=>?_|refine ai fun K I=>?_;go_simp;refine I _ _ ?_;clear I K|refine ao fun K I=>?_;go_simp|refine aj ?_)
   go_meet
   case rel=>exact ⟨_,_,rfl,rfl,(by have h:=Blk.new (W0.alloc (.cells #[.int .i64 (an:Nat)] 3)) 3 #[.int .i64 pg];rwa [af] at h),((Blk.new W0 3 #[.int .i64 (an:Nat)]).alloc _),(hS.alloc _).alloc _,Nat.le_succ_of_le hS.size,hS.size⟩
 obtain ⟨b6,b7,rfl,rfl,h6,h7,lC,yU⟩:=hcut
 have AG:=ah yU
 clear yU
 have H6:=ah h6
 have H7:=ah h7
 have kA:=ah lC
 have q2:wc.cell? ⟨b2,0,none⟩ = some (.pointer (some ⟨gb pid,0,none⟩)):=by simpa using (nC.out wc lC).cell 0
 have qA:wc.cell? ⟨gb pid,0,none⟩ = some (.pointer (some ⟨d,0,none⟩)):=by simpa [prc] using (HP.out wc lC).blk.cell 0
 have q6:wc.cell? ⟨b6,0,none⟩ = some (.int .i64 pg):=by simpa using h6.cell 0
 have l2:=(nC.out wc lC).lt
 have lb:=(HP.out wc lC).blk.lt
 have l6:=h6.lt
 obtain ⟨r0,rO⟩:∃z:Int,z = Ar.rt p.rl pg:=⟨_,rfl⟩
 have pO:Ar.hasB p.rl pg = decide (r0≠0):=by rw [rO];rfl
 have At:=(HP.out wc lC).sp.g pg
 rw [← rO] at Bv AP At
 rw [pO] at AP
 have AN:=ah At
 clear h6 h7 lC rO pO At c5 l3 vS mD Ew
 go_upto_region 2 with (fail)
 refine ke [1,0,0,1,1,3,0,0,0,0,0] ?_
 go_wp2_with (first|refine ao fun K I=>?_;go_simp;refine (AP.out _ kA.out.drew).mono ?_;rintro e W3 ⟨rfl,jD⟩;refine I _ _ ?_;clear I K;have jE:=ah (kA.out.drew.stay jD);have EM:=ah (H6.out.drew.chg jD ab);have Cd:=ah (H7.out.drew.chg jD ab);obtain ⟨c0,-,-,-,-,-,c6,-,-,-,-,-,l3,-⟩:=KB.cells (jY.out W3 jE.out);rw [HK.out] at c0;clear jD q2 qA q6 l2 lb l6|refine av fun K I=>?_|refine ai fun K I=>?_;go_simp;refine I _ _ ?_;clear I K|refine ao fun K I=>?_;go_simp|refine aj ?_)
 go_cut [11,12] from 31 to 39 (fun z11 z12 W=>∃b11,z11 = .pointer (some ⟨b11,0,none⟩)∧z12 = .bool th∧Blk W b11 115 #[.pointer pa]∧Chg [] W3 W∧W3.heap.size≤b11)
 case first =>
  clear c0 c6 l3
  refine rgt [5,0,0,5,5,5,0,0,0,6,3,0] [none,none,none,none,none,none,none,none,none,none,none,none] (fun W=>Chg [] W3 W) ?_
  have hS:Chg [] W3 W3.drew:=(Chg.refl [] W3).drew
  generalize W3.drew = W0 at hS ⊢
  go_wp2_with (first|refine al 103 _ rfl rfl (fun w' J=>dk Tryz.underlying103 (by simpa using (nC.out w' (jE.out.stay J)).cell 0)) hS ?_|refine al 110 _ rfl rfl (fun w' J=>ca Tryz.underlying110 (by simpa [prc] using (HP.out w' (jE.out.stay J)).blk.cell 1)) hS ?_|refine al 3 _ rfl rfl (fun w' J=>cr Tryz.underlying3 (by simpa using (EM.out.chg J ab).cell 0)) hS ?_|refine ly 110 _ _ true rfl rfl rfl (fun w' J=>rA.out w' (jE.out.stay J)) hS ?_|refine av fun K I=>?_|refine ai fun K I=>?_;go_simp;refine I _ _ ?_;clear I K|refine ao fun K I=>?_;go_simp|refine aj ?_)
  (refine aw hS fun K I=>?_)
  go_simp
  refine I _ _ (hS.alloc _) ?_
  clear I K
  go_wp2_with (first|refine av fun K I=>?_|refine ai fun K I=>?_;go_simp;refine I _ _ ?_;clear I K|refine ao fun K I=>?_;go_simp|refine aj ?_)
  go_meet
  case rel=>exact ⟨_,rfl,rfl,Blk.new W0 _ _,hS.alloc _,hS.size⟩
 obtain ⟨b11,rfl,rfl,mM,lC,wL⟩:=hcut
 have Cw:=ah wL
 have HGE:=ah (show w.heap.size≤b11∧w.heap.size≤b7∧w.heap.size≤b6 from ⟨ag (ag jU.out.size jE.out.size) wL,ag jU.out.size AG.out.2,ag jU.out.size AG.out.1⟩)
 have xG:=ah mM
 have Cr:=ah (jE.out.stay lC)
 have Cs:=ah lC
 clear mM lC wL c0 c6 l3
 go_upto_if 41 with (fail)
 go_cut [] from 41 to 42 (fun W=>∃pb,Blk W b11 115 #[.pointer (some ⟨pb,0,none⟩)]∧PgB W pb B'∧Chg [] W3 W∧((∃B,p.pg pg = some B∧pb = gp pg)∨(p.pg pg = none∧w.heap.size≤pb)))
 case first =>
  have l11:=xG.out.lt
  have f11:=xG.out.frozen
  rcases oE.out with ⟨ht,hv,hb⟩ | ⟨ht,hv,hb,hz⟩
  ·subst ht
   have Cc:=ah (show Blk wc b11 115 #[.pointer (some ⟨gp pg,0,none⟩)] by rw [← hv];exact xG.out)
   have qO:=ah ((HP.out wc Cr.out).pg pg B' hb)
   have oA:=ah (show (∃B,p.pg pg = some B∧gp pg = gp pg)∨(p.pg pg = none∧w.heap.size≤gp pg) from .inl ⟨_,hb,rfl⟩)
   clear hv hb
   go_wp2_with fail
   go_meet
   case rel=>exact ⟨_,Cc.out,qO.out,Cs.out,oA.out.imp (fun ⟨B,h,_⟩=>⟨B,h,rfl⟩) id⟩
  ·subst ht
   have HZ:=ah hz
   have oA:=ah (show (∃B,p.pg pg = some B∧wc.heap.size = gp pg)∨(p.pg pg = none∧w.heap.size≤wc.heap.size) from .inr ⟨hb,ag jU.out.size Cr.out.size⟩)
   have q11:wc.cell? ⟨b11,0,none⟩ = some (.pointer pa):=by simpa using xG.out.cell 0
   clear hv hb hz
   go_wp2_with (first|refine iu rfl rfl ?_;try go_simp)
   go_meet
   case rel =>
    refine ⟨wc.heap.size,(Blk.set_ xG.out 0 _).alloc _,?_,(Cs.out.setCell (p:=⟨b11,0,none⟩) (.inr Cw.out) _).alloc _,oA.out⟩
    have h:=PgB.new (wc.setCell ⟨b11,0,none⟩ (.pointer (some ⟨wc.heap.size,0,none⟩)))
    rw [qq] at h
    rw [HZ.out]
    exact h
 obtain ⟨pb,yP,tJ,yR,zP⟩:=hcut
 have oA:=ah zP
 have tZ:=ah tJ
 have rQ:=ah yR
 have wA:=ah (jE.out.stay yR)
 have tT:=ah yP
 have nB:=ah (fun e W=>kh e W)
 have HR:=ah (show ∀(R:Rs) W W7,Chg [] W2 W→Chg [b4] W W7→(R,(none:Option Mo)) = (if r0 = 0 then (aq 7,none) else if r0 < 2 then (aq 190,none) else (aq 0,some { M with pr:=upd M.pr pid (some { p with pg:=upd p.pg pg (some (cj B' an x.l)) }) }))→R.l = []→AnsR w W7 m O X ((cx p x).1,(cx p x).2.map fun q=>{ M with pr:=upd M.pr pid (some q) }) (.returned (.tuple #[.agg (rsc R zV),.nilFunc]))∧Chg [] w W7 from fun R W W7 h1 h2 h3 h4=>by
  rw [Bv.out,← h3]
  refine ⟨⟨none,0,0,.nilFunc,rfl,?_,(fun _ h=>(bw h).elim),rfl⟩,(jU.out.stay h1).trans h2 (fun y hy=>.inr (by obtain rfl:=aa hy;have:=HE.out;omega))⟩
  show RB W7 (.slice none 0 0) R.l
  rw [h4]
  exact RE.nil _ _ _ _ _)
 have HS:=ah (show ∀W W7,Chg [] W2 W→Chg [] wc W→Chg [b4] W W7→XB W b4 zRs zV→(aq 0,some { M with pr:=upd M.pr pid (some { p with pg:=upd p.pg pg (some (cj B' an x.l)) }) }) = (if r0 = 0 then (aq 7,none) else if r0 < 2 then (aq 190,none) else (aq 0,some { M with pr:=upd M.pr pid (some { p with pg:=upd p.pg pg (some (cj B' an x.l)) }) }))→AnsR w W7 m O X ((cx p x).1,(cx p x).2.map fun q=>{ M with pr:=upd M.pr pid (some q) }) (.returned (.tuple #[.agg (rsc (aq 0) zV),.func (.func 99) #[] #[.pointer (some ⟨b11,0,none⟩),.pointer (some ⟨b7,0,none⟩),.pointer (some ⟨b3,0,none⟩),.pointer (some ⟨b2,0,none⟩),.pointer (some ⟨b6,0,none⟩)]]))∧Chg [] w W7 from fun W W7 h1 h0 h2 h4 h3=>by
  rw [Bv.out,← h3]
  have FZ:Chg [] w W7:=(jU.out.stay h1).trans h2 (fun y hy=>.inr (by obtain rfl:=aa hy;have:=HE.out;omega))
  refine ⟨⟨none,0,0,_,rfl,RE.nil _ _ _ _ _,(fun _ h=>(bw h).elim),_,_,rfl,oc Tryz.func99 (by kernel_rfl) (by kernel_rfl),fun G Z hG hZ=>?_⟩,FZ⟩
  have k2:Chg [b4] wc W7:=(h0.up [b4]).and_ h2
  have m11:=(tT.out.chg k2 (by simp;exact Blk.ne_ (tT.out.chg h0 ab) h4 (by decide))).chg hZ (hG.new HGE.out.1)
  have m7:=((Cd.out.chg (rQ.out.stay h0) ab).chg h2 (by simp;exact Blk.ne_ (Cd.out.chg (rQ.out.stay h0) ab) h4 (by decide))).chg hZ (hG.new HGE.out.2.1)
  have m6:=((EM.out.chg (rQ.out.stay h0) ab).chg h2 (by simp;exact Blk.ne_ (EM.out.chg (rQ.out.stay h0) ab) h4 (by decide))).chg hZ (hG.new HGE.out.2.2)
  have m3:KB Z b3 x v:=Blk.chg (Blk.chg (jY.out W h1) h2 (by simp;exact Blk.ne_ (jY.out W h1) h4 (by decide))) hZ (hG.new (by have:=HE.out;omega))
  have m2:=((nC.out W h1).chg h2 (by simp;exact Blk.ne_ (nC.out W h1) h4 (by decide))).chg hZ (hG.new (by have:=HE.out;omega))
  have mp:PgB Z pb B':=⟨((tZ.out.blk.chg h0 ab).chg h2 (by simp;exact Blk.ne_ (tZ.out.blk.chg h0 ab) h4 (by decide))).chg hZ (fun hm=>(oA.out.elim (fun h=>(hG pb hm).2.1 (tB.out pb h)) (fun h=>hG.new h.2 hm))),tZ.out.len,tZ.out.b8⟩
  refine (qY.out Z W7 G hG FZ hZ b11 b7 b3 b2 b6 pb B' oA.out mp m11 m7 m3 m2 m6).mono ?_
  rintro e W' ⟨rfl,k1,O',k3,k4⟩
  have hw:w.heap.size≤pb∨(∃B,p.pg pg = some B∧pb = gp pg):=oA.out.symm.imp (fun h=>h.2) id
  obtain ⟨L,g1,g2⟩:=k1
  exact ⟨rfl,⟨L,g1,fun k hk=>(g2 k hk).imp (fun h=>HEO.out k pb h hw) id⟩,O',k3,fun k hk=>HEO.out k pb (k4 k hk) hw⟩)
 obtain ⟨c0,-,-,-,-,-,c6,-,-,-,-,-,l3,-⟩:=KB.cells (jY.out wc wA.out)
 rw [HK.out] at c0
 have kD:=ah (XB.stay jW.out wA.out)
 clear yP tJ yR zP rA AP jE Cr Cs H6 oA qY HEO
 rcases (by have:=AN.out;omega:r0 = 0∨r0 = 1∨r0 = 2∨r0 = 3) with rfl | rfl | rfl | rfl
 ·go_wp2_with fail
  refine (nB.out _ _).mono ?_
  rintro e W6 ⟨rfl,iZ⟩
  have pH:=ah (XB.stay kD.out iZ)
  have kR:=ah (wA.out.stay iZ)
  clear iZ
  go_wp2_with (first|refine au (b:=b4) (y:=aq 7) (u:=zV) rfl _ _ rfl rfl rfl rfl pH.out ?_;intro W7 h7 jI)
  exact bodyPost_ret (v:=.tuple #[.agg (rsc (aq 7) zV),.nilFunc]) (bf (p:=4) (q:=5) rfl _ rfl h7) rfl (HR.out (aq 7) _ W7 kR.out jI rfl rfl)
 ·have hb:bits BinOp.and .u8 1 2 = 0:=by decide
  go_wp2_with fail
  refine (nB.out _ _).mono ?_
  rintro e W6 ⟨rfl,iZ⟩
  have pH:=ah (XB.stay kD.out iZ)
  have kR:=ah (wA.out.stay iZ)
  clear iZ
  go_wp2_with (first|refine au (b:=b4) (y:=aq 190) (u:=zV) rfl _ _ rfl rfl rfl rfl pH.out ?_;intro W7 h7 jI)
  exact bodyPost_ret (v:=.tuple #[.agg (rsc (aq 190) zV),.nilFunc]) (bf (p:=4) (q:=5) rfl _ rfl h7) rfl (HR.out (aq 190) _ W7 kR.out jI rfl rfl)
 ·have hb:bits BinOp.and .u8 2 2 = 2:=by decide
  go_wp2_with fail
  refine (nB.out _ _).mono ?_
  rintro e W6 ⟨rfl,iZ⟩
  have pH:=ah (XB.stay kD.out iZ)
  have kR:=ah (wA.out.stay iZ)
  have Cp:=ah iZ
  clear iZ
  go_wp2_with (first|refine au (b:=b4) (y:=aq 0) (u:=zV) rfl _ _ rfl rfl rfl rfl pH.out ?_;intro W7 h7 jI)
  exact bodyPost_ret (v:=.tuple #[.agg (rsc (aq 0) zV),.func (.func 99) #[] #[.pointer (some ⟨b11,0,none⟩),.pointer (some ⟨b7,0,none⟩),.pointer (some ⟨b3,0,none⟩),.pointer (some ⟨b2,0,none⟩),.pointer (some ⟨b6,0,none⟩)]]) (bf (p:=4) (q:=5) rfl _ rfl h7) rfl (HS.out _ W7 kR.out Cp.out jI pH.out rfl)
 ·have hb:bits BinOp.and .u8 3 2 = 2:=by decide
  go_wp2_with fail
  refine (nB.out _ _).mono ?_
  rintro e W6 ⟨rfl,iZ⟩
  have pH:=ah (XB.stay kD.out iZ)
  have kR:=ah (wA.out.stay iZ)
  have Cp:=ah iZ
  clear iZ
  go_wp2_with (first|refine au (b:=b4) (y:=aq 0) (u:=zV) rfl _ _ rfl rfl rfl rfl pH.out ?_;intro W7 h7 jI)
  exact bodyPost_ret (v:=.tuple #[.agg (rsc (aq 0) zV),.func (.func 99) #[] #[.pointer (some ⟨b11,0,none⟩),.pointer (some ⟨b7,0,none⟩),.pointer (some ⟨b3,0,none⟩),.pointer (some ⟨b2,0,none⟩),.pointer (some ⟨b6,0,none⟩)]]) (bf (p:=4) (q:=5) rfl _ rfl h7) rfl (HS.out _ W7 kR.out Cp.out jI pH.out rfl)
end Go.Proofs.YtfoleblcaloeoaaGreatDoor
