/- Texts merged for the claim. -/
import Derived.Test.YtfoleblcaloeoaaGreatDoorZap
set_option maxHeartbeats 40000000
set_option maxRecDepth 20000
namespace Go.Proofs.YtfoleblcaloeoaaGreatDoor
open Go Go.RowKit
theorem dk {w:World} {t e:TypeId} {ad:Addr} {v:Value} (ht:Tryz.prog.underlying t = some (.pointer e)) (h:w.cell? ad = some v):(loadVar t ad).run Tryz.prog w = .ok v w:=by
 simp [loadVar,isAgg,run_underlying ht,load,Sem.run,h]
theorem ca {w:World} {t k e:TypeId} {ad:Addr} {v:Value} (ht:Tryz.prog.underlying t = some (.map k e)) (h:w.cell? ad = some v):(loadVar t ad).run Tryz.prog w = .ok v w:=by
 simp [loadVar,isAgg,run_underlying ht,load,Sem.run,h]
theorem Blk.ne_map {w:World} {g b:Nat} {t:TypeId} {cs:Array Value} {k:IntKind} {f:Int→Option Value} (h:Blk w g t cs) (h':MapB w b k f):g≠b:=by
 rintro rfl
 obtain ⟨es,cl,h1,_⟩:=h'
 unfold Blk at h
 rw [h] at h1
 cases h1
theorem SB.ne_map {w:World} {v:Value} {l:List Nat} {b:Nat} {k:IntKind} {f:Int→Option Value} (h:SB w v l) (h':MapB w b k f):b∉own v:=fun hk=>by
 obtain ⟨cur,hc⟩:=Sl.blk h hk
 exact Blk.ne_map hc h' rfl
theorem iV {w W W5:World} {m:Nat} {M:Mo} {O:Nat→Prop} {bp bo be:Nat} {fp fo fe:Int→Option Value} {gb:Int→Nat} {GF:Int→Nat→Prop} {ov:Int→Value}
  (hI:MIn w m M bp bo be fp fo fe gb GF ov) (hO:∀k,FMo M m bp bo be GF ov k→O k) (hl:∀k,O k→k < w.heap.size) {pid:Int} (hp:M.pr pid = none) (hr:1≤pid∧pid≤8)
  (hc:Chg [] w W) {dA dP dO:Nat} (hA:Ar.AMem W dA [] [dA]) (hP:MapB W dP .i64 fun _=>none) (hQ:MapB W dO .i64 fun _=>none) (hn:dP≠dO) (gA:w.heap.size≤dA) (gP:w.heap.size≤dP) (gO:w.heap.size≤dO)
  (h5:MapB W5 bp .i64 fun y=>if y = pid then some (.pointer (some ⟨W.heap.size,0,none⟩)) else fp y) (U:Chg [bp] (W.alloc (.cells (prc dA dP dO jf) 113)) W5) :
  CP O w W5∧∃O',MMem W5 m { M with pr:=upd M.pr pid (some jf) } O'∧∀k,O' k→O k∨w.heap.size≤k:=by
 have lF:Chg [bp] w W5:=((hc.alloc _).up [bp]).trans U (fun x hx=>.inl hx)
 have kO:CP (fun k=>k = bp) w W5:=CP.of lF (fun k hk=>.inl (aa hk))
 have hbp:=hI.mp.lt
 have hs:=hc.size
 have GB:=U.size
 rw [af] at GB
 have tJ:PMem W5 W.heap.size jf fun k=>k = W.heap.size∨k = dA∨k = dP∨k = dO:=by
  have a1:∀k∈[dA],k < W.heap.size:=hA.lt
  have a2:=hP.lt
  have a3:=hQ.lt
  have a1':=a1 dA (List.mem_singleton.2 rfl)
  have s1:Chg [bp] W W5:=(((Chg.refl [] W).alloc _).up [bp]).trans U (fun x hx=>.inl hx)
  refine ⟨dA,[dA],dP,dO,fun _=>none,fun _=>none,fun _=>0,⟨?_,hA.chg s1 (by simp;omega),?_,hP.chg s1 (by simp;omega),hQ.chg s1 (by simp;omega),fun _=>rfl,fun _=>rfl,(fun n B h=>by cases h),(fun n n' B B' h=>by cases h),hn,(by decide),(by decide),(fun n q h=>by cases h)⟩,?_,?_⟩
  ·exact (Blk.new W _ _).chg U (by simp;omega)
  ·exact Ar.Sp.nil
  ·rintro k (rfl | hk | rfl | rfl | ⟨n,B,h,_⟩)
   ·exact .inl rfl
   ·exact .inr (.inl (aa hk))
   ·exact .inr (.inr (.inl rfl))
   ·exact .inr (.inr (.inr rfl))
   ·cases h
  ·rintro k (rfl | rfl | rfl | rfl) <;> omega
 have jO:∀n p,upd M.pr pid (some jf) n = some p→n≠pid→M.pr n = some p:=fun n p h h2=>by unfold upd at h;rwa [if_neg h2] at h
 have rF:∀n p,M.pr n = some p→∀k,GF n k→k < w.heap.size:=fun n p h k hk=>hl k (hO k (.inr (.inr (.inr (.inr (.inl ⟨n,p,h,hk⟩))))))
 have hmlt:=hI.blk.lt
 have hbo:=hI.mo.lt
 have hbe:=hI.me.lt
 refine ⟨CP.of lF (fun k hk=>.inl (by obtain rfl:=aa hk;exact hO _ (.inr (.inl rfl)))),fun k=>O k∨k = W.heap.size∨k = dA∨k = dP∨k = dO,⟨bp,bo,be,_,fo,fe,upd gb pid W.heap.size,upd GF pid (fun k=>k = W.heap.size∨k = dA∨k = dP∨k = dO),ov,⟨hI.blk.cp kO (hI.blk.ne_map hI.mp),h5,hI.mo.cp kO (fun e=>hI.d1 e.symm),hI.me.cp kO (fun e=>hI.d2 e.symm),?_,?_,?_,?_,hI.ho,fun z B hB=>⟨SB.cp (hI.ob z B hB).1 kO (fun k hk e=>SB.ne_map (hI.ob z B hB).1 hI.mp (e ▸ hk)),(hI.ob z B hB).2⟩,hI.oa,hI.he,hI.d1,hI.d2,hI.d3,?_⟩,?_,?_⟩,?_⟩
 ·intro n
  show (if n = pid then _ else _) = (upd M.pr pid (some jf) n).map _
  by_cases h:n = pid
  ·simp [upd,h]
  ·simp only [upd,if_neg h];exact hI.hp n
 ·intro n p h
  by_cases hn:n = pid
  ·subst hn
   have e1:jf = p:=by
    have h':upd M.pr n (some jf) n = some p:=h
    simpa [upd] using h'
   subst e1
   unfold upd
   rw [if_pos rfl,if_pos rfl]
   exact tJ
  ·unfold upd
   rw [if_neg hn,if_neg hn]
   exact (hI.pr n p (jO n p h hn)).cp kO (fun k hk e=>(hI.dm n p (jO n p h hn) k hk).2.1 e)
 ·intro n n' p p' h h' wP k hk kL
  unfold upd at hk kL
  by_cases e1:n = pid
  ·have e2:n'≠pid:=fun e=>wP (e1.trans e.symm)
   rw [if_pos e1] at hk
   rw [if_neg e2] at kL
   have:=rF n' p' (jO n' p' h' e2) k kL
   rcases hk with rfl | rfl | rfl | rfl <;> omega
  ·rw [if_neg e1] at hk
   by_cases e2:n' = pid
   ·rw [if_pos e2] at kL
    have:=rF n p (jO n p h e1) k hk
    rcases kL with rfl | rfl | rfl | rfl <;> omega
   ·rw [if_neg e2] at kL
    exact hI.ap n n' p p' (jO n p h e1) (jO n' p' h' e2) wP k hk kL
 ·intro n p h
  by_cases e1:n = pid
  ·rw [e1];exact hr
  ·exact hI.rng n p (jO n p h e1)
 ·intro n p h k hk
  by_cases e1:n = pid
  ·unfold upd at hk
   rw [if_pos e1] at hk
   have g:w.heap.size≤k:=by rcases hk with rfl | rfl | rfl | rfl <;> omega
   refine ⟨by omega,by omega,by omega,by omega,fun z B hB pJ=>?_⟩
   have:=hl k (hO k (.inr (.inr (.inr (.inr (.inr ⟨z,B,hB,pJ⟩))))))
   omega
  ·unfold upd at hk
   rw [if_neg e1] at hk
   exact hI.dm n p (jO n p h e1) k hk
 ·rintro k (rfl | rfl | rfl | rfl | ⟨n,p,h,hk⟩ | ⟨z,B,hB,hk⟩)
  ·exact .inl (hO _ (.inl rfl))
  ·exact .inl (hO _ (.inr (.inl rfl)))
  ·exact .inl (hO _ (.inr (.inr (.inl rfl))))
  ·exact .inl (hO _ (.inr (.inr (.inr (.inl rfl)))))
  ·by_cases e1:n = pid
   ·unfold upd at hk
    rw [if_pos e1] at hk
    exact .inr hk
   ·unfold upd at hk
    rw [if_neg e1] at hk
    exact .inl (hO _ (.inr (.inr (.inr (.inr (.inl ⟨n,p,jO n p h e1,hk⟩))))))
  ·exact .inl (hO _ (.inr (.inr (.inr (.inr (.inr ⟨z,B,hB,hk⟩))))))
 ·have a1':dA < W.heap.size:=hA.lt dA (List.mem_singleton.2 rfl)
  have a2:=hP.lt
  have a3:=hQ.lt
  rintro k (h | rfl | rfl | rfl | rfl)
  ·have:=hl k h;omega
  ·omega
  ·omega
  ·omega
  ·omega
 ·rintro k (h | rfl | rfl | rfl | rfl)
  ·exact .inl h
  ·exact .inr hs
  ·exact .inr gA
  ·exact .inr gP
  ·exact .inr gO
theorem spawn_do {w:World} {m b1 b4:Nat} {M:Mo} {O:Nat→Prop} (h:MMem w m M O) (h1:Blk w b1 30 #[.pointer (some ⟨m,0,none⟩)]) {pid:Int} (h4:Blk w b4 3 #[.int .i64 pid]) (hp:M.pr pid = none) (hr:1≤pid∧pid≤8) :
  Calls Tryz.prog 91 #[.pointer (some ⟨b1,0,none⟩),.pointer (some ⟨b4,0,none⟩)] w fun e W'=>e = .returned (.tuple #[])∧CP O w W'∧∃O',MMem W' m { M with pr:=upd M.pr pid (some jf) } O'∧∀k,O' k→O k∨w.heap.size≤k:=by
 obtain ⟨bp,bo,be,fp,fo,fe,gb,GF,ov,hI,hO,hl⟩:=h
 have lT:=ah (fun (W W5:World) (hc:Chg [] w W) (dA dP dO:Nat)=>@iV w W W5 m M O bp bo be fp fo fe gb GF ov hI hO hl pid hp hr hc dA dP dO)
 have HI:=ah hI
 have H1:=ah h1
 have H4:=ah h4
 have qI:∀(t:TypeId) (W:World),(Instr.makeMap t none).run Tryz.prog W = .ok (.map (some W.heap.size)) (W.alloc (.map #[] 0)):=fun t W=>run_makeMap t W
 clear hI hO hl hp hr h1 h4
 go_enter Tryz.func91,Tryz.ntmps91
 refine kw [5,0,0,5,5,6,6,6,0,6,3] [none,none,none,none,none,none,none,none,none,none,none] [[0,1,2,3,4,5,6,7,8,9,10],[0,1,2,3,4,5,7,6,8,9,10],[0,1,2,3,4,6,5,7,8,9,10],[0,1,2,3,4,6,7,5,8,9,10],[0,1,2,3,4,7,5,6,8,9,10],[0,1,2,3,4,7,6,5,8,9,10]] (fun W=>Chg [] w W) (by kernel_rfl) (by kernel_rfl) (by kernel_rfl) (by kernel_rfl) (fun L9 nQ=>?_)
 have hS:Chg [] w w.drew:=(Chg.refl [] w).drew
 generalize w.drew = W0 at hS ⊢
 simp only [List.mem_cons,List.mem_nil_iff,or_false] at nQ
 rcases nQ with rfl | rfl | rfl | rfl | rfl | rfl
 ·simp only [dt,List.filterMap_cons,List.filterMap_nil,List.getElem?_cons_succ,List.getElem?_cons_zero]
  go_wp2_with (first|refine al 30 _ rfl rfl (fun w' J=>dk Tryz.underlying30 (by simpa using (Blk.chg H1.out J ab).cell 0)) hS ?_|refine al 58 _ rfl rfl (fun w' J=>ca Tryz.underlying58 (cc (Blk.chg HI.out.blk J ab)).1) hS ?_|refine al 3 _ rfl rfl (fun w' J=>cr Tryz.underlying3 (by simpa using (Blk.chg H4.out J ab).cell 0)) hS ?_|refine av fun K I=>?_|refine ai fun K I=>?_;go_simp;refine I _ _ ?_;clear I K|refine ao fun K I=>?_;go_simp|refine aj ?_)
  (refine aw hS fun K I=>?_)
  go_simp
  refine (Ar.new_any W0).mono ?_
  rintro e W1 ⟨rfl,hA,jH⟩
  have kT:Chg [] w W1:=hS.stay jH
  have gA:w.heap.size≤W0.heap.size:=hS.size
  refine I _ _ kT ?_
  clear I K
  (refine aw kT fun K I=>?_)
  go_simp
  obtain ⟨W2,jB⟩:∃W,W = W1.alloc (.map #[] 0):=⟨_,rfl⟩
  have jA:Chg [] W1 W2:=by rw [jB];exact (Chg.refl [] _).alloc _
  have hP:MapB W2 W1.heap.size .i64 (fun _=>none):=by rw [jB];exact MapB.new _ _
  have gP:w.heap.size≤W1.heap.size:=kT.size
  have lP:W1.heap.size < W2.heap.size:=hP.lt
  have kM:Chg [] w W2:=kT.stay jA
  try rw [← jB]
  clear jB
  refine I _ _ kM ?_
  clear I K
  replace hA:=hA.stay jA
  (refine aw kM fun K I=>?_)
  go_simp
  obtain ⟨W3,mC⟩:∃W,W = W2.alloc (.map #[] 0):=⟨_,rfl⟩
  have jD:Chg [] W2 W3:=by rw [mC];exact (Chg.refl [] _).alloc _
  have hQ:MapB W3 W2.heap.size .i64 (fun _=>none):=by rw [mC];exact MapB.new _ _
  have gQ:w.heap.size≤W2.heap.size:=kM.size
  have lQ:W2.heap.size < W3.heap.size:=hQ.lt
  have lM:Chg [] w W3:=kM.stay jD
  try rw [← mC]
  clear mC
  refine I _ _ lM ?_
  clear I K
  replace hA:=hA.stay jD
  replace hP:=hP.stay jD
  have HA:=ah hA
  have HP:=ah hP
  have HQ:=ah hQ
  have HG:=ah (And.intro gA (And.intro gP gQ))
  have kP:=ah (show W1.heap.size≠W2.heap.size by have:=jH.size;have:=jA.size;have:=jD.size;omega)
  have oJ:=ah (tv W0.heap.size W1.heap.size W2.heap.size)
  have sE:=ah (MapB.stay HI.out.mp lM)
  have oF:=ah lM
  clear hA hP hQ gA gP gQ lP lQ hS kT kM lM jH jA jD
  go_wp2_with (first|refine aw oF.out fun K I=>?_;refine kd _ rfl rfl ?_;refine I _ _ (oF.out.alloc _) ?_;clear I K|refine av fun K I=>?_;refine gy _ rfl oJ.out ?_ ?_;(focus (simp [Act.eval];done));refine I _ _ ?_;clear I K|refine ao fun K I=>?_;refine fd _ _ _ rfl Tryz.underlying58 Tryz.underlying3 rfl rfl rfl (MapB.stay sE.out ((Chg.refl [] W3).alloc _)) ?_;intro W5 h5 U;refine I _ _ ?_;clear I K|refine av fun K I=>?_|refine ai fun K I=>?_;go_simp;refine I _ _ ?_;clear I K|refine ao fun K I=>?_;go_simp|refine aj ?_)
  go_end0
  exact ⟨rfl,lT.out _ _ oF.out _ _ _ HA.out HP.out HQ.out kP.out HG.out.1 HG.out.2.1 HG.out.2.2 h5 U⟩
 ·simp only [dt,List.filterMap_cons,List.filterMap_nil,List.getElem?_cons_succ,List.getElem?_cons_zero]
  go_wp2_with (first|refine al 30 _ rfl rfl (fun w' J=>dk Tryz.underlying30 (by simpa using (Blk.chg H1.out J ab).cell 0)) hS ?_|refine al 58 _ rfl rfl (fun w' J=>ca Tryz.underlying58 (cc (Blk.chg HI.out.blk J ab)).1) hS ?_|refine al 3 _ rfl rfl (fun w' J=>cr Tryz.underlying3 (by simpa using (Blk.chg H4.out J ab).cell 0)) hS ?_|refine av fun K I=>?_|refine ai fun K I=>?_;go_simp;refine I _ _ ?_;clear I K|refine ao fun K I=>?_;go_simp|refine aj ?_)
  (refine aw hS fun K I=>?_)
  go_simp
  refine (Ar.new_any W0).mono ?_
  rintro e W1 ⟨rfl,hA,jH⟩
  have kT:Chg [] w W1:=hS.stay jH
  have gA:w.heap.size≤W0.heap.size:=hS.size
  refine I _ _ kT ?_
  clear I K
  (refine aw kT fun K I=>?_)
  go_simp
  obtain ⟨W2,jB⟩:∃W,W = W1.alloc (.map #[] 0):=⟨_,rfl⟩
  have jA:Chg [] W1 W2:=by rw [jB];exact (Chg.refl [] _).alloc _
  have hQ:MapB W2 W1.heap.size .i64 (fun _=>none):=by rw [jB];exact MapB.new _ _
  have gQ:w.heap.size≤W1.heap.size:=kT.size
  have lQ:W1.heap.size < W2.heap.size:=hQ.lt
  have kM:Chg [] w W2:=kT.stay jA
  try rw [← jB]
  clear jB
  refine I _ _ kM ?_
  clear I K
  replace hA:=hA.stay jA
  (refine aw kM fun K I=>?_)
  go_simp
  obtain ⟨W3,mC⟩:∃W,W = W2.alloc (.map #[] 0):=⟨_,rfl⟩
  have jD:Chg [] W2 W3:=by rw [mC];exact (Chg.refl [] _).alloc _
  have hP:MapB W3 W2.heap.size .i64 (fun _=>none):=by rw [mC];exact MapB.new _ _
  have gP:w.heap.size≤W2.heap.size:=kM.size
  have lP:W2.heap.size < W3.heap.size:=hP.lt
  have lM:Chg [] w W3:=kM.stay jD
  try rw [← mC]
  clear mC
  refine I _ _ lM ?_
  clear I K
  replace hA:=hA.stay jD
  replace hQ:=hQ.stay jD
  have HA:=ah hA
  have HP:=ah hP
  have HQ:=ah hQ
  have HG:=ah (And.intro gA (And.intro gP gQ))
  have kP:=ah (show W2.heap.size≠W1.heap.size by have:=jH.size;have:=jA.size;have:=jD.size;omega)
  have oJ:=ah (tv W0.heap.size W2.heap.size W1.heap.size)
  have sE:=ah (MapB.stay HI.out.mp lM)
  have oF:=ah lM
  clear hA hP hQ gA gP gQ lP lQ hS kT kM lM jH jA jD
  go_wp2_with (first|refine aw oF.out fun K I=>?_;refine kd _ rfl rfl ?_;refine I _ _ (oF.out.alloc _) ?_;clear I K|refine av fun K I=>?_;refine gy _ rfl oJ.out ?_ ?_;(focus (simp [Act.eval];done));refine I _ _ ?_;clear I K|refine ao fun K I=>?_;refine fd _ _ _ rfl Tryz.underlying58 Tryz.underlying3 rfl rfl rfl (MapB.stay sE.out ((Chg.refl [] W3).alloc _)) ?_;intro W5 h5 U;refine I _ _ ?_;clear I K|refine av fun K I=>?_|refine ai fun K I=>?_;go_simp;refine I _ _ ?_;clear I K|refine ao fun K I=>?_;go_simp|refine aj ?_)
  go_end0
  exact ⟨rfl,lT.out _ _ oF.out _ _ _ HA.out HP.out HQ.out kP.out HG.out.1 HG.out.2.1 HG.out.2.2 h5 U⟩
 ·simp only [dt,List.filterMap_cons,List.filterMap_nil,List.getElem?_cons_succ,List.getElem?_cons_zero]
  go_wp2_with (first|refine al 30 _ rfl rfl (fun w' J=>dk Tryz.underlying30 (by simpa using (Blk.chg H1.out J ab).cell 0)) hS ?_|refine al 58 _ rfl rfl (fun w' J=>ca Tryz.underlying58 (cc (Blk.chg HI.out.blk J ab)).1) hS ?_|refine al 3 _ rfl rfl (fun w' J=>cr Tryz.underlying3 (by simpa using (Blk.chg H4.out J ab).cell 0)) hS ?_|refine av fun K I=>?_|refine ai fun K I=>?_;go_simp;refine I _ _ ?_;clear I K|refine ao fun K I=>?_;go_simp|refine aj ?_)
  (refine aw hS fun K I=>?_)
  go_simp
  obtain ⟨W1,jG⟩:∃W,W = W0.alloc (.map #[] 0):=⟨_,rfl⟩
  have jH:Chg [] W0 W1:=by rw [jG];exact (Chg.refl [] _).alloc _
  have hP:MapB W1 W0.heap.size .i64 (fun _=>none):=by rw [jG];exact MapB.new _ _
  have gP:w.heap.size≤W0.heap.size:=hS.size
  have lP:W0.heap.size < W1.heap.size:=hP.lt
  have kT:Chg [] w W1:=hS.stay jH
  try rw [← jG]
  clear jG
  refine I _ _ kT ?_
  clear I K
  (refine aw kT fun K I=>?_)
  go_simp
  refine (Ar.new_any W1).mono ?_
  rintro e W2 ⟨rfl,hA,jA⟩
  have kM:Chg [] w W2:=kT.stay jA
  have gA:w.heap.size≤W1.heap.size:=kT.size
  refine I _ _ kM ?_
  clear I K
  replace hP:=hP.stay jA
  (refine aw kM fun K I=>?_)
  go_simp
  obtain ⟨W3,mC⟩:∃W,W = W2.alloc (.map #[] 0):=⟨_,rfl⟩
  have jD:Chg [] W2 W3:=by rw [mC];exact (Chg.refl [] _).alloc _
  have hQ:MapB W3 W2.heap.size .i64 (fun _=>none):=by rw [mC];exact MapB.new _ _
  have gQ:w.heap.size≤W2.heap.size:=kM.size
  have lQ:W2.heap.size < W3.heap.size:=hQ.lt
  have lM:Chg [] w W3:=kM.stay jD
  try rw [← mC]
  clear mC
  refine I _ _ lM ?_
  clear I K
  replace hP:=hP.stay jD
  replace hA:=hA.stay jD
  have HA:=ah hA
  have HP:=ah hP
  have HQ:=ah hQ
  have HG:=ah (And.intro gA (And.intro gP gQ))
  have kP:=ah (show W0.heap.size≠W2.heap.size by have:=jH.size;have:=jA.size;have:=jD.size;omega)
  have oJ:=ah (tv W1.heap.size W0.heap.size W2.heap.size)
  have sE:=ah (MapB.stay HI.out.mp lM)
  have oF:=ah lM
  clear hA hP hQ gA gP gQ lP lQ hS kT kM lM jH jA jD
  go_wp2_with (first|refine aw oF.out fun K I=>?_;refine kd _ rfl rfl ?_;refine I _ _ (oF.out.alloc _) ?_;clear I K|refine av fun K I=>?_;refine gy _ rfl oJ.out ?_ ?_;(focus (simp [Act.eval];done));refine I _ _ ?_;clear I K|refine ao fun K I=>?_;refine fd _ _ _ rfl Tryz.underlying58 Tryz.underlying3 rfl rfl rfl (MapB.stay sE.out ((Chg.refl [] W3).alloc _)) ?_;intro W5 h5 U;refine I _ _ ?_;clear I K|refine av fun K I=>?_|refine ai fun K I=>?_;go_simp;refine I _ _ ?_;clear I K|refine ao fun K I=>?_;go_simp|refine aj ?_)
  go_end0
  exact ⟨rfl,lT.out _ _ oF.out _ _ _ HA.out HP.out HQ.out kP.out HG.out.1 HG.out.2.1 HG.out.2.2 h5 U⟩
 ·simp only [dt,List.filterMap_cons,List.filterMap_nil,List.getElem?_cons_succ,List.getElem?_cons_zero]
  go_wp2_with (first|refine al 30 _ rfl rfl (fun w' J=>dk Tryz.underlying30 (by simpa using (Blk.chg H1.out J ab).cell 0)) hS ?_|refine al 58 _ rfl rfl (fun w' J=>ca Tryz.underlying58 (cc (Blk.chg HI.out.blk J ab)).1) hS ?_|refine al 3 _ rfl rfl (fun w' J=>cr Tryz.underlying3 (by simpa using (Blk.chg H4.out J ab).cell 0)) hS ?_|refine av fun K I=>?_|refine ai fun K I=>?_;go_simp;refine I _ _ ?_;clear I K|refine ao fun K I=>?_;go_simp|refine aj ?_)
  (refine aw hS fun K I=>?_)
  go_simp
  obtain ⟨W1,jG⟩:∃W,W = W0.alloc (.map #[] 0):=⟨_,rfl⟩
  have jH:Chg [] W0 W1:=by rw [jG];exact (Chg.refl [] _).alloc _
  have hP:MapB W1 W0.heap.size .i64 (fun _=>none):=by rw [jG];exact MapB.new _ _
  have gP:w.heap.size≤W0.heap.size:=hS.size
  have lP:W0.heap.size < W1.heap.size:=hP.lt
  have kT:Chg [] w W1:=hS.stay jH
  try rw [← jG]
  clear jG
  refine I _ _ kT ?_
  clear I K
  (refine aw kT fun K I=>?_)
  go_simp
  obtain ⟨W2,jB⟩:∃W,W = W1.alloc (.map #[] 0):=⟨_,rfl⟩
  have jA:Chg [] W1 W2:=by rw [jB];exact (Chg.refl [] _).alloc _
  have hQ:MapB W2 W1.heap.size .i64 (fun _=>none):=by rw [jB];exact MapB.new _ _
  have gQ:w.heap.size≤W1.heap.size:=kT.size
  have lQ:W1.heap.size < W2.heap.size:=hQ.lt
  have kM:Chg [] w W2:=kT.stay jA
  try rw [← jB]
  clear jB
  refine I _ _ kM ?_
  clear I K
  replace hP:=hP.stay jA
  (refine aw kM fun K I=>?_)
  go_simp
  refine (Ar.new_any W2).mono ?_
  rintro e W3 ⟨rfl,hA,jD⟩
  have lM:Chg [] w W3:=kM.stay jD
  have gA:w.heap.size≤W2.heap.size:=kM.size
  refine I _ _ lM ?_
  clear I K
  replace hP:=hP.stay jD
  replace hQ:=hQ.stay jD
  have HA:=ah hA
  have HP:=ah hP
  have HQ:=ah hQ
  have HG:=ah (And.intro gA (And.intro gP gQ))
  have kP:=ah (show W0.heap.size≠W1.heap.size by have:=jH.size;have:=jA.size;have:=jD.size;omega)
  have oJ:=ah (tv W2.heap.size W0.heap.size W1.heap.size)
  have sE:=ah (MapB.stay HI.out.mp lM)
  have oF:=ah lM
  clear hA hP hQ gA gP gQ lP lQ hS kT kM lM jH jA jD
  go_wp2_with (first|refine aw oF.out fun K I=>?_;refine kd _ rfl rfl ?_;refine I _ _ (oF.out.alloc _) ?_;clear I K|refine av fun K I=>?_;refine gy _ rfl oJ.out ?_ ?_;(focus (simp [Act.eval];done));refine I _ _ ?_;clear I K|refine ao fun K I=>?_;refine fd _ _ _ rfl Tryz.underlying58 Tryz.underlying3 rfl rfl rfl (MapB.stay sE.out ((Chg.refl [] W3).alloc _)) ?_;intro W5 h5 U;refine I _ _ ?_;clear I K|refine av fun K I=>?_|refine ai fun K I=>?_;go_simp;refine I _ _ ?_;clear I K|refine ao fun K I=>?_;go_simp|refine aj ?_)
  go_end0
  exact ⟨rfl,lT.out _ _ oF.out _ _ _ HA.out HP.out HQ.out kP.out HG.out.1 HG.out.2.1 HG.out.2.2 h5 U⟩
 ·simp only [dt,List.filterMap_cons,List.filterMap_nil,List.getElem?_cons_succ,List.getElem?_cons_zero]
  go_wp2_with (first|refine al 30 _ rfl rfl (fun w' J=>dk Tryz.underlying30 (by simpa using (Blk.chg H1.out J ab).cell 0)) hS ?_|refine al 58 _ rfl rfl (fun w' J=>ca Tryz.underlying58 (cc (Blk.chg HI.out.blk J ab)).1) hS ?_|refine al 3 _ rfl rfl (fun w' J=>cr Tryz.underlying3 (by simpa using (Blk.chg H4.out J ab).cell 0)) hS ?_|refine av fun K I=>?_|refine ai fun K I=>?_;go_simp;refine I _ _ ?_;clear I K|refine ao fun K I=>?_;go_simp|refine aj ?_)
  (refine aw hS fun K I=>?_)
  go_simp
  obtain ⟨W1,jG⟩:∃W,W = W0.alloc (.map #[] 0):=⟨_,rfl⟩
  have jH:Chg [] W0 W1:=by rw [jG];exact (Chg.refl [] _).alloc _
  have hQ:MapB W1 W0.heap.size .i64 (fun _=>none):=by rw [jG];exact MapB.new _ _
  have gQ:w.heap.size≤W0.heap.size:=hS.size
  have lQ:W0.heap.size < W1.heap.size:=hQ.lt
  have kT:Chg [] w W1:=hS.stay jH
  try rw [← jG]
  clear jG
  refine I _ _ kT ?_
  clear I K
  (refine aw kT fun K I=>?_)
  go_simp
  refine (Ar.new_any W1).mono ?_
  rintro e W2 ⟨rfl,hA,jA⟩
  have kM:Chg [] w W2:=kT.stay jA
  have gA:w.heap.size≤W1.heap.size:=kT.size
  refine I _ _ kM ?_
  clear I K
  replace hQ:=hQ.stay jA
  (refine aw kM fun K I=>?_)
  go_simp
  obtain ⟨W3,mC⟩:∃W,W = W2.alloc (.map #[] 0):=⟨_,rfl⟩
  have jD:Chg [] W2 W3:=by rw [mC];exact (Chg.refl [] _).alloc _
  have hP:MapB W3 W2.heap.size .i64 (fun _=>none):=by rw [mC];exact MapB.new _ _
  have gP:w.heap.size≤W2.heap.size:=kM.size
  have lP:W2.heap.size < W3.heap.size:=hP.lt
  have lM:Chg [] w W3:=kM.stay jD
  try rw [← mC]
  clear mC
  refine I _ _ lM ?_
  clear I K
  replace hQ:=hQ.stay jD
  replace hA:=hA.stay jD
  have HA:=ah hA
  have HP:=ah hP
  have HQ:=ah hQ
  have HG:=ah (And.intro gA (And.intro gP gQ))
  have kP:=ah (show W2.heap.size≠W0.heap.size by have:=jH.size;have:=jA.size;have:=jD.size;omega)
  have oJ:=ah (tv W1.heap.size W2.heap.size W0.heap.size)
  have sE:=ah (MapB.stay HI.out.mp lM)
  have oF:=ah lM
  clear hA hP hQ gA gP gQ lP lQ hS kT kM lM jH jA jD
  go_wp2_with (first|refine aw oF.out fun K I=>?_;refine kd _ rfl rfl ?_;refine I _ _ (oF.out.alloc _) ?_;clear I K|refine av fun K I=>?_;refine gy _ rfl oJ.out ?_ ?_;(focus (simp [Act.eval];done));refine I _ _ ?_;clear I K|refine ao fun K I=>?_;refine fd _ _ _ rfl Tryz.underlying58 Tryz.underlying3 rfl rfl rfl (MapB.stay sE.out ((Chg.refl [] W3).alloc _)) ?_;intro W5 h5 U;refine I _ _ ?_;clear I K|refine av fun K I=>?_|refine ai fun K I=>?_;go_simp;refine I _ _ ?_;clear I K|refine ao fun K I=>?_;go_simp|refine aj ?_)
  go_end0
  exact ⟨rfl,lT.out _ _ oF.out _ _ _ HA.out HP.out HQ.out kP.out HG.out.1 HG.out.2.1 HG.out.2.2 h5 U⟩
 ·simp only [dt,List.filterMap_cons,List.filterMap_nil,List.getElem?_cons_succ,List.getElem?_cons_zero]
  go_wp2_with (first|refine al 30 _ rfl rfl (fun w' J=>dk Tryz.underlying30 (by simpa using (Blk.chg H1.out J ab).cell 0)) hS ?_|refine al 58 _ rfl rfl (fun w' J=>ca Tryz.underlying58 (cc (Blk.chg HI.out.blk J ab)).1) hS ?_|refine al 3 _ rfl rfl (fun w' J=>cr Tryz.underlying3 (by simpa using (Blk.chg H4.out J ab).cell 0)) hS ?_|refine av fun K I=>?_|refine ai fun K I=>?_;go_simp;refine I _ _ ?_;clear I K|refine ao fun K I=>?_;go_simp|refine aj ?_)
  (refine aw hS fun K I=>?_)
  go_simp
  obtain ⟨W1,jG⟩:∃W,W = W0.alloc (.map #[] 0):=⟨_,rfl⟩
  have jH:Chg [] W0 W1:=by rw [jG];exact (Chg.refl [] _).alloc _
  have hQ:MapB W1 W0.heap.size .i64 (fun _=>none):=by rw [jG];exact MapB.new _ _
  have gQ:w.heap.size≤W0.heap.size:=hS.size
  have lQ:W0.heap.size < W1.heap.size:=hQ.lt
  have kT:Chg [] w W1:=hS.stay jH
  try rw [← jG]
  clear jG
  refine I _ _ kT ?_
  clear I K
  (refine aw kT fun K I=>?_)
  go_simp
  obtain ⟨W2,jB⟩:∃W,W = W1.alloc (.map #[] 0):=⟨_,rfl⟩
  have jA:Chg [] W1 W2:=by rw [jB];exact (Chg.refl [] _).alloc _
  have hP:MapB W2 W1.heap.size .i64 (fun _=>none):=by rw [jB];exact MapB.new _ _
  have gP:w.heap.size≤W1.heap.size:=kT.size
  have lP:W1.heap.size < W2.heap.size:=hP.lt
  have kM:Chg [] w W2:=kT.stay jA
  try rw [← jB]
  clear jB
  refine I _ _ kM ?_
  clear I K
  replace hQ:=hQ.stay jA
  (refine aw kM fun K I=>?_)
  go_simp
  refine (Ar.new_any W2).mono ?_
  rintro e W3 ⟨rfl,hA,jD⟩
  have lM:Chg [] w W3:=kM.stay jD
  have gA:w.heap.size≤W2.heap.size:=kM.size
  refine I _ _ lM ?_
  clear I K
  replace hQ:=hQ.stay jD
  replace hP:=hP.stay jD
  have HA:=ah hA
  have HP:=ah hP
  have HQ:=ah hQ
  have HG:=ah (And.intro gA (And.intro gP gQ))
  have kP:=ah (show W1.heap.size≠W0.heap.size by have:=jH.size;have:=jA.size;have:=jD.size;omega)
  have oJ:=ah (tv W2.heap.size W1.heap.size W0.heap.size)
  have sE:=ah (MapB.stay HI.out.mp lM)
  have oF:=ah lM
  clear hA hP hQ gA gP gQ lP lQ hS kT kM lM jH jA jD
  go_wp2_with (first|refine aw oF.out fun K I=>?_;refine kd _ rfl rfl ?_;refine I _ _ (oF.out.alloc _) ?_;clear I K|refine av fun K I=>?_;refine gy _ rfl oJ.out ?_ ?_;(focus (simp [Act.eval];done));refine I _ _ ?_;clear I K|refine ao fun K I=>?_;refine fd _ _ _ rfl Tryz.underlying58 Tryz.underlying3 rfl rfl rfl (MapB.stay sE.out ((Chg.refl [] W3).alloc _)) ?_;intro W5 h5 U;refine I _ _ ?_;clear I K|refine av fun K I=>?_|refine ai fun K I=>?_;go_simp;refine I _ _ ?_;clear I K|refine ao fun K I=>?_;go_simp|refine aj ?_)
  go_end0
  exact ⟨rfl,lT.out _ _ oF.out _ _ _ HA.out HP.out HQ.out kP.out HG.out.1 HG.out.2.1 HG.out.2.2 h5 U⟩
end Go.Proofs.YtfoleblcaloeoaaGreatDoor
