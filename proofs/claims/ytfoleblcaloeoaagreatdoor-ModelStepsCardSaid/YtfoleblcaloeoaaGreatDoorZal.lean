import Derived.Test.YtfoleblcaloeoaaGreatDoorZak
set_option maxHeartbeats 40000000
set_option maxRecDepth 20000
namespace Go.Proofs.YtfoleblcaloeoaaGreatDoor
open Go Go.RowKit
variable {v:Value} {ad:Addr} {w:World}
theorem jc {t e:TypeId} (ht:Tryz.prog.underlying t = some (.pointer e)) (h:w.cell? ad = some v):(loadVar t ad).run Tryz.prog w = .ok v w:=by simp [loadVar,isAgg,run_underlying ht,load,Sem.run,h]
theorem gy {t k e:TypeId} (ht:Tryz.prog.underlying t = some (.map k e)) (h:w.cell? ad = some v):(loadVar t ad).run Tryz.prog w = .ok v w:=by simp [loadVar,isAgg,run_underlying ht,load,Sem.run,h]
theorem Blk.ne_map {w:World} {g b:Nat} {t:TypeId} {cs:Array Value} {k:IntKind} {f:Int→Option Value} (h:Blk w g t cs) (h':MapB w b k f):g≠b:=by rintro rfl;obtain ⟨es,cl,h1,_⟩:=h';unfold Blk at h;rw [h] at h1;cases h1
theorem SB.ne_map {w:World} {v:Value} {l:List Nat} {b:Nat} {k:IntKind} {f:Int→Option Value} (h:SB w v l) (h':MapB w b k f):b∉own v:=fun hk=>by
 obtain ⟨cur,hc⟩:=Sl.blk h hk
 exact Blk.ne_map hc h' rfl
theorem kA {w W W5:World} {m:Nat} {M:Mo} {O:Nat→Prop} {bp bo be:Nat} {fp fo fe:Int→Option Value} {gb:Int→Nat} {GF:Int→Nat→Prop} {ov:Int→Value}
  (hI:MIn w m M bp bo be fp fo fe gb GF ov) (hO:∀k,FMo M m bp bo be GF ov k→O k) (hl:∀k,O k→k < w.heap.size) {pid:Int} (hp:M.pr pid = none) (hr:1≤pid∧pid≤8)
  (hc:Chg [] w W) {dA dP dO:Nat} (hA:Ar.AMem W dA [] [dA]) (hP:MapB W dP .i64 fun _=>none) (hQ:MapB W dO .i64 fun _=>none) (hn:dP≠dO) (gA:w.heap.size≤dA) (gP:w.heap.size≤dP) (gO:w.heap.size≤dO)
  (h5:MapB W5 bp .i64 fun y=>if y = pid then some (.pointer (some ⟨W.heap.size,0,none⟩)) else fp y) (kE:Chg [bp] (W.alloc (.cells (prc dA dP dO jv) 113)) W5) :
  CP O w W5∧∃O',MMem W5 m { M with pr:=upd M.pr pid (some jv) } O'∧∀k,O' k→O k∨w.heap.size≤k:=by
 have mO:Chg [bp] w W5:=((hc.alloc _).up [bp]).trans kE (fun x hx=>.inl hx);have nN:CP (fun k=>k = bp) w W5:=CP.of mO (fun k hk=>.inl (aa hk));have hbp:=hI.mp.lt;have hs:=hc.size;have Iy:=kE.size;rw [af] at Iy;have sY:PMem W5 W.heap.size jv fun k=>k = W.heap.size∨k = dA∨k = dP∨k = dO:=by
  have a1:∀k∈[dA],k < W.heap.size:=hA.lt;have a2:=hP.lt;have a3:=hQ.lt;have a1':=a1 dA (List.mem_singleton.2 rfl);have s1:Chg [bp] W W5:=(((av [] W).alloc _).up [bp]).trans kE (fun x hx=>.inl hx);refine ⟨dA,[dA],dP,dO,fun _=>none,fun _=>none,fun _=>0,⟨?_,hA.chg s1 (by simp;omega),?_,hP.chg s1 (by simp;omega),hQ.chg s1 (by simp;omega),fun _=>rfl,fun _=>rfl,(fun n B h=>by cases h),(fun n n' B B' h=>by cases h),hn,(by decide),(by decide),(fun n q h=>by cases h)⟩,?_,?_⟩
  ·exact (ax W _ _).chg kE (by simp;omega)
  ·exact Ar.Sp.nil
  ·rintro k (rfl | hk | rfl | rfl | ⟨n,B,h,_⟩)
   ·exact .inl rfl
   ·exact .inr (.inl (aa hk))
   ·exact .inr (.inr (.inl rfl))
   ·exact .inr (.inr (.inr rfl))
   ·cases h
  ·rintro k (rfl | rfl | rfl | rfl) <;> omega
 have kT:∀n p,upd M.pr pid (some jv) n = some p→n≠pid→M.pr n = some p:=fun n p h h2=>by unfold upd at h;rwa [ag h2] at h
 have qE:∀n p,M.pr n = some p→∀k,GF n k→k < w.heap.size:=fun n p h k hk=>hl k (hO k (.inr (.inr (.inr (.inr (.inl ⟨n,p,h,hk⟩))))));have hmlt:=hI.blk.lt;have hbo:=hI.mo.lt;have hbe:=hI.me.lt;refine ⟨CP.of mO (fun k hk=>.inl (by obtain rfl:=aa hk;exact hO _ (.inr (.inl rfl)))),fun k=>O k∨k = W.heap.size∨k = dA∨k = dP∨k = dO,⟨bp,bo,be,_,fo,fe,upd gb pid W.heap.size,upd GF pid (fun k=>k = W.heap.size∨k = dA∨k = dP∨k = dO),ov,⟨hI.blk.cp nN (hI.blk.ne_map hI.mp),h5,hI.mo.cp nN (fun e=>hI.d1 e.symm),hI.me.cp nN (fun e=>hI.d2 e.symm),?_,?_,?_,?_,hI.ho,fun z B hB=>⟨SB.cp (hI.ob z B hB).1 nN (fun k hk e=>SB.ne_map (hI.ob z B hB).1 hI.mp (e ▸ hk)),(hI.ob z B hB).2⟩,hI.oa,hI.he,hI.d1,hI.d2,hI.d3,?_⟩,?_,?_⟩,?_⟩
 ·intro n;show (if n = pid then _ else _) = (upd M.pr pid (some jv) n).map _;by_cases h:n = pid
  ·simp [upd,h]
  ·simp only [upd,ag h];exact hI.hp n
 ·intro n p h;by_cases hn:n = pid
  ·subst hn;have e1:jv = p:=by
    have h':upd M.pr n (some jv) n = some p:=h;simpa [upd] using h'
   subst e1;unfold upd;rw [ah rfl,ah rfl];exact sY
  ·unfold upd;rw [ag hn,ag hn];exact (hI.pr n p (kT n p h hn)).cp nN (fun k hk e=>(hI.dm n p (kT n p h hn) k hk).2.1 e)
 ·intro n n' p p' h h' yO k hk mG;unfold upd at hk mG;by_cases e1:n = pid
  ·have e2:n'≠pid:=fun e=>yO (e1.trans e.symm);rw [ah e1] at hk;rw [ag e2] at mG;have:=qE n' p' (kT n' p' h' e2) k mG;rcases hk with rfl | rfl | rfl | rfl <;> omega
  ·rw [ag e1] at hk;by_cases e2:n' = pid
   ·rw [ah e2] at mG;have:=qE n p (kT n p h e1) k hk;rcases mG with rfl | rfl | rfl | rfl <;> omega
   ·rw [ag e2] at mG;exact hI.ap n n' p p' (kT n p h e1) (kT n' p' h' e2) yO k hk mG
 ·intro n p h;by_cases e1:n = pid
  ·rw [e1];exact hr
  ·exact hI.rng n p (kT n p h e1)
 ·intro n p h k hk;by_cases e1:n = pid
  ·unfold upd at hk;rw [ah e1] at hk;have g:w.heap.size≤k:=(by rcases hk with rfl | rfl | rfl | rfl <;> omega);refine ⟨by omega,by omega,by omega,by omega,fun z B hB rU=>?_⟩;have:=hl k (hO k (.inr (.inr (.inr (.inr (.inr ⟨z,B,hB,rU⟩))))));omega
  ·unfold upd at hk;rw [ag e1] at hk;exact hI.dm n p (kT n p h e1) k hk
 ·rintro k (rfl | rfl | rfl | rfl | ⟨n,p,h,hk⟩ | ⟨z,B,hB,hk⟩)
  ·exact .inl (hO _ (.inl rfl))
  ·exact .inl (hO _ (.inr (.inl rfl)))
  ·exact .inl (hO _ (.inr (.inr (.inl rfl))))
  ·exact .inl (hO _ (.inr (.inr (.inr (.inl rfl)))))
  ·by_cases e1:n = pid
   ·unfold upd at hk;rw [ah e1] at hk;exact .inr hk
   ·unfold upd at hk;rw [ag e1] at hk;exact .inl (hO _ (.inr (.inr (.inr (.inr (.inl ⟨n,p,kT n p h e1,hk⟩))))))
  ·exact .inl (hO _ (.inr (.inr (.inr (.inr (.inr ⟨z,B,hB,hk⟩))))))
 ·have a1':dA < W.heap.size:=hA.lt dA (List.mem_singleton.2 rfl);have a2:=hP.lt;have a3:=hQ.lt;rintro k (h | rfl | rfl | rfl | rfl)
  ·have:=hl k h;omega
  ·omega
  ·omega
  ·omega
  ·omega
 ·rintro k (h | rfl | rfl | rfl | rfl)
  ·exact .inl h
  ·exact .inr hs
  ·exact .inr gA
  ·exact .inr gP
  ·exact .inr gO
theorem spawn_do {m b1 b4:Nat} {M:Mo} {O:Nat→Prop} (h:MMem w m M O) (h1:Blk w b1 30 #[.pointer (some ⟨m,0,none⟩)]) {pid:Int} (h4:Blk w b4 3 #[.int .i64 pid]) (hp:M.pr pid = none) (hr:1≤pid∧pid≤8) :
  Calls Tryz.prog 91 #[.pointer (some ⟨b1,0,none⟩),.pointer (some ⟨b4,0,none⟩)] w fun e W'=>e = .returned (.tuple #[])∧CP O w W'∧∃O',MMem W' m { M with pr:=upd M.pr pid (some jv) } O'∧∀k,O' k→O k∨w.heap.size≤k:=by
 obtain ⟨bp,bo,be,fp,fo,fe,gb,GF,ov,hI,hO,hl⟩:=h;have nD:=bk (fun (W W5:World) (hc:Chg [] w W) (dA dP dO:Nat)=>@kA w W W5 m M O bp bo be fp fo fe gb GF ov hI hO hl pid hp hr hc dA dP dO);have HI:=bk hI;have H1:=bk h1;have H4:=bk h4;have sW:∀(t:TypeId) (W:World),(Instr.makeMap t none).run Tryz.prog W = .ok (.map (some W.heap.size)) (W.alloc (.map #[] 0)):=fun t W=>run_makeMap t W;clear hI hO hl hp hr h1 h4;go_enter Tryz.func91,Tryz.ntmps91;refine rz [5,0,0,5,5,6,6,6,0,6,3] [none,none,none,none,none,none,none,none,none,none,none] [[0,1,2,3,4,5,6,7,8,9,10],[0,1,2,3,4,5,7,6,8,9,10],[0,1,2,3,4,6,5,7,8,9,10],[0,1,2,3,4,6,7,5,8,9,10],[0,1,2,3,4,7,5,6,8,9,10],[0,1,2,3,4,7,6,5,8,9,10]] (fun W=>Chg [] w W) (by kernel_rfl) (by kernel_rfl) (by kernel_rfl) (by kernel_rfl) (fun L9 qO=>?_);have hS:Chg [] w w.drew:=(av [] w).drew;generalize w.drew = W0 at hS ⊢;simp only [List.mem_cons,List.mem_nil_iff,or_false] at qO;rcases qO with rfl | rfl | rfl | rfl | rfl | rfl
 ·simp only [fv,List.filterMap_cons,List.filterMap_nil,List.getElem?_cons_succ,List.getElem?_cons_zero];go_wp2_with (first|refine ca 30 _ rfl rfl (fun w' kK=>jc Tryz.underlying30 (by simpa using (aw H1.out kK ab).cell 0)) hS ?_|refine ca 58 _ rfl rfl (fun w' kK=>gy Tryz.underlying58 (eq (aw HI.out.blk kK ab)).1) hS ?_|refine ca 3 _ rfl rfl (fun w' kK=>dg Tryz.underlying3 (by simpa using (aw H4.out kK ab).cell 0)) hS ?_|refine cdA fun K U=>?_|refine bn fun K U=>?_;go_simp|refine bq ?_);(refine cd hS fun K U=>?_);go_simp;refine (Ar.new_any W0).mono ?_;rintro e W1 ⟨rfl,hA,kO⟩;have mE:Chg [] w W1:=hS.stay kO;have gA:w.heap.size≤W0.heap.size:=hS.size;refine U _ _ mE ?_;clear U K;(refine cd mE fun K U=>?_);go_simp;obtain ⟨W2,kJ⟩:∃W,W = W1.alloc (.map #[] 0):=⟨_,rfl⟩;have kI:Chg [] W1 W2:=by rw [kJ];exact (av [] _).alloc _
  have hP:MapB W2 W1.heap.size .i64 (fun _=>none):=by rw [kJ];exact MapB.new _ _
  have gP:w.heap.size≤W1.heap.size:=mE.size;have lP:W1.heap.size < W2.heap.size:=hP.lt;have lY:Chg [] w W2:=mE.stay kI
  try rw [← kJ]
  clear kJ;refine U _ _ lY ?_;clear U K;replace hA:=hA.stay kI;(refine cd lY fun K U=>?_);go_simp;obtain ⟨W3,tK⟩:∃W,W = W2.alloc (.map #[] 0):=⟨_,rfl⟩;have kM:Chg [] W2 W3:=by rw [tK];exact (av [] _).alloc _
  have hQ:MapB W3 W2.heap.size .i64 (fun _=>none):=by rw [tK];exact MapB.new _ _
  have gQ:w.heap.size≤W2.heap.size:=lY.size;have lQ:W2.heap.size < W3.heap.size:=hQ.lt;have nI:Chg [] w W3:=lY.stay kM
  try rw [← tK]
  clear tK;refine U _ _ nI ?_;clear U K;replace hA:=hA.stay kM;replace hP:=hP.stay kM;have HA:=bk hA;have HP:=bk hP;have HQ:=bk hQ;have HG:=bk (ai gA (ai gP gQ));have lT:=bk (show W1.heap.size≠W2.heap.size by have:=kO.size;have:=kI.size;have:=kM.size;omega);have zQ:=bk (us W0.heap.size W1.heap.size W2.heap.size);have tY:=bk (MapB.stay HI.out.mp nI);have pM:=bk nI;clear hA hP hQ gA gP gQ lP lQ hS mE lY nI kO kI kM;go_wp2_with (first|refine cd pM.out fun K U=>?_;refine oz _ rfl rfl ?_;refine U _ _ (pM.out.alloc _) ?_;clear U K|refine vn fun K U=>?_;refine ls _ rfl zQ.out ?_ ?_;(focus (simp [Act.eval];done));refine U _ _ ?_;clear U K|refine dy fun K U=>?_;refine ir _ _ _ rfl Tryz.underlying58 Tryz.underlying3 rfl rfl rfl (MapB.stay tY.out ((av [] W3).alloc _)) ?_;intro W5 h5 kE;refine U _ _ ?_;clear U K|refine cdA fun K U=>?_|refine bn fun K U=>?_;go_simp|refine bq ?_);go_end0;exact ⟨rfl,nD.out _ _ pM.out _ _ _ HA.out HP.out HQ.out lT.out HG.out.1 HG.out.2.1 HG.out.2.2 h5 kE⟩
 ·simp only [fv,List.filterMap_cons,List.filterMap_nil,List.getElem?_cons_succ,List.getElem?_cons_zero];go_wp2_with (first|refine ca 30 _ rfl rfl (fun w' kK=>jc Tryz.underlying30 (by simpa using (aw H1.out kK ab).cell 0)) hS ?_|refine ca 58 _ rfl rfl (fun w' kK=>gy Tryz.underlying58 (eq (aw HI.out.blk kK ab)).1) hS ?_|refine ca 3 _ rfl rfl (fun w' kK=>dg Tryz.underlying3 (by simpa using (aw H4.out kK ab).cell 0)) hS ?_|refine cdA fun K U=>?_|refine bn fun K U=>?_;go_simp|refine bq ?_);(refine cd hS fun K U=>?_);go_simp;refine (Ar.new_any W0).mono ?_;rintro e W1 ⟨rfl,hA,kO⟩;have mE:Chg [] w W1:=hS.stay kO;have gA:w.heap.size≤W0.heap.size:=hS.size;refine U _ _ mE ?_;clear U K;(refine cd mE fun K U=>?_);go_simp;obtain ⟨W2,kJ⟩:∃W,W = W1.alloc (.map #[] 0):=⟨_,rfl⟩;have kI:Chg [] W1 W2:=by rw [kJ];exact (av [] _).alloc _
  have hQ:MapB W2 W1.heap.size .i64 (fun _=>none):=by rw [kJ];exact MapB.new _ _
  have gQ:w.heap.size≤W1.heap.size:=mE.size;have lQ:W1.heap.size < W2.heap.size:=hQ.lt;have lY:Chg [] w W2:=mE.stay kI
  try rw [← kJ]
  clear kJ;refine U _ _ lY ?_;clear U K;replace hA:=hA.stay kI;(refine cd lY fun K U=>?_);go_simp;obtain ⟨W3,tK⟩:∃W,W = W2.alloc (.map #[] 0):=⟨_,rfl⟩;have kM:Chg [] W2 W3:=by rw [tK];exact (av [] _).alloc _
  have hP:MapB W3 W2.heap.size .i64 (fun _=>none):=by rw [tK];exact MapB.new _ _
  have gP:w.heap.size≤W2.heap.size:=lY.size;have lP:W2.heap.size < W3.heap.size:=hP.lt;have nI:Chg [] w W3:=lY.stay kM
  try rw [← tK]
  clear tK;refine U _ _ nI ?_;clear U K;replace hA:=hA.stay kM;replace hQ:=hQ.stay kM;have HA:=bk hA;have HP:=bk hP;have HQ:=bk hQ;have HG:=bk (ai gA (ai gP gQ));have lT:=bk (show W2.heap.size≠W1.heap.size by have:=kO.size;have:=kI.size;have:=kM.size;omega);have zQ:=bk (us W0.heap.size W2.heap.size W1.heap.size);have tY:=bk (MapB.stay HI.out.mp nI);have pM:=bk nI;clear hA hP hQ gA gP gQ lP lQ hS mE lY nI kO kI kM;go_wp2_with (first|refine cd pM.out fun K U=>?_;refine oz _ rfl rfl ?_;refine U _ _ (pM.out.alloc _) ?_;clear U K|refine vn fun K U=>?_;refine ls _ rfl zQ.out ?_ ?_;(focus (simp [Act.eval];done));refine U _ _ ?_;clear U K|refine dy fun K U=>?_;refine ir _ _ _ rfl Tryz.underlying58 Tryz.underlying3 rfl rfl rfl (MapB.stay tY.out ((av [] W3).alloc _)) ?_;intro W5 h5 kE;refine U _ _ ?_;clear U K|refine cdA fun K U=>?_|refine bn fun K U=>?_;go_simp|refine bq ?_);go_end0;exact ⟨rfl,nD.out _ _ pM.out _ _ _ HA.out HP.out HQ.out lT.out HG.out.1 HG.out.2.1 HG.out.2.2 h5 kE⟩
 ·simp only [fv,List.filterMap_cons,List.filterMap_nil,List.getElem?_cons_succ,List.getElem?_cons_zero];go_wp2_with (first|refine ca 30 _ rfl rfl (fun w' kK=>jc Tryz.underlying30 (by simpa using (aw H1.out kK ab).cell 0)) hS ?_|refine ca 58 _ rfl rfl (fun w' kK=>gy Tryz.underlying58 (eq (aw HI.out.blk kK ab)).1) hS ?_|refine ca 3 _ rfl rfl (fun w' kK=>dg Tryz.underlying3 (by simpa using (aw H4.out kK ab).cell 0)) hS ?_|refine cdA fun K U=>?_|refine bn fun K U=>?_;go_simp|refine bq ?_);(refine cd hS fun K U=>?_);go_simp;obtain ⟨W1,kP⟩:∃W,W = W0.alloc (.map #[] 0):=⟨_,rfl⟩;have kO:Chg [] W0 W1:=by rw [kP];exact (av [] _).alloc _
  have hP:MapB W1 W0.heap.size .i64 (fun _=>none):=by rw [kP];exact MapB.new _ _
  have gP:w.heap.size≤W0.heap.size:=hS.size;have lP:W0.heap.size < W1.heap.size:=hP.lt;have mE:Chg [] w W1:=hS.stay kO
  try rw [← kP]
  clear kP;refine U _ _ mE ?_;clear U K;(refine cd mE fun K U=>?_);go_simp;refine (Ar.new_any W1).mono ?_;rintro e W2 ⟨rfl,hA,kI⟩;have lY:Chg [] w W2:=mE.stay kI;have gA:w.heap.size≤W1.heap.size:=mE.size;refine U _ _ lY ?_;clear U K;replace hP:=hP.stay kI;(refine cd lY fun K U=>?_);go_simp;obtain ⟨W3,tK⟩:∃W,W = W2.alloc (.map #[] 0):=⟨_,rfl⟩;have kM:Chg [] W2 W3:=by rw [tK];exact (av [] _).alloc _
  have hQ:MapB W3 W2.heap.size .i64 (fun _=>none):=by rw [tK];exact MapB.new _ _
  have gQ:w.heap.size≤W2.heap.size:=lY.size;have lQ:W2.heap.size < W3.heap.size:=hQ.lt;have nI:Chg [] w W3:=lY.stay kM
  try rw [← tK]
  clear tK;refine U _ _ nI ?_;clear U K;replace hP:=hP.stay kM;replace hA:=hA.stay kM;have HA:=bk hA;have HP:=bk hP;have HQ:=bk hQ;have HG:=bk (ai gA (ai gP gQ));have lT:=bk (show W0.heap.size≠W2.heap.size by have:=kO.size;have:=kI.size;have:=kM.size;omega);have zQ:=bk (us W1.heap.size W0.heap.size W2.heap.size);have tY:=bk (MapB.stay HI.out.mp nI);have pM:=bk nI;clear hA hP hQ gA gP gQ lP lQ hS mE lY nI kO kI kM;go_wp2_with (first|refine cd pM.out fun K U=>?_;refine oz _ rfl rfl ?_;refine U _ _ (pM.out.alloc _) ?_;clear U K|refine vn fun K U=>?_;refine ls _ rfl zQ.out ?_ ?_;(focus (simp [Act.eval];done));refine U _ _ ?_;clear U K|refine dy fun K U=>?_;refine ir _ _ _ rfl Tryz.underlying58 Tryz.underlying3 rfl rfl rfl (MapB.stay tY.out ((av [] W3).alloc _)) ?_;intro W5 h5 kE;refine U _ _ ?_;clear U K|refine cdA fun K U=>?_|refine bn fun K U=>?_;go_simp|refine bq ?_);go_end0;exact ⟨rfl,nD.out _ _ pM.out _ _ _ HA.out HP.out HQ.out lT.out HG.out.1 HG.out.2.1 HG.out.2.2 h5 kE⟩
 ·simp only [fv,List.filterMap_cons,List.filterMap_nil,List.getElem?_cons_succ,List.getElem?_cons_zero];go_wp2_with (first|refine ca 30 _ rfl rfl (fun w' kK=>jc Tryz.underlying30 (by simpa using (aw H1.out kK ab).cell 0)) hS ?_|refine ca 58 _ rfl rfl (fun w' kK=>gy Tryz.underlying58 (eq (aw HI.out.blk kK ab)).1) hS ?_|refine ca 3 _ rfl rfl (fun w' kK=>dg Tryz.underlying3 (by simpa using (aw H4.out kK ab).cell 0)) hS ?_|refine cdA fun K U=>?_|refine bn fun K U=>?_;go_simp|refine bq ?_);(refine cd hS fun K U=>?_);go_simp;obtain ⟨W1,kP⟩:∃W,W = W0.alloc (.map #[] 0):=⟨_,rfl⟩;have kO:Chg [] W0 W1:=by rw [kP];exact (av [] _).alloc _
  have hP:MapB W1 W0.heap.size .i64 (fun _=>none):=by rw [kP];exact MapB.new _ _
  have gP:w.heap.size≤W0.heap.size:=hS.size;have lP:W0.heap.size < W1.heap.size:=hP.lt;have mE:Chg [] w W1:=hS.stay kO
  try rw [← kP]
  clear kP;refine U _ _ mE ?_;clear U K;(refine cd mE fun K U=>?_);go_simp;obtain ⟨W2,kJ⟩:∃W,W = W1.alloc (.map #[] 0):=⟨_,rfl⟩;have kI:Chg [] W1 W2:=by rw [kJ];exact (av [] _).alloc _
  have hQ:MapB W2 W1.heap.size .i64 (fun _=>none):=by rw [kJ];exact MapB.new _ _
  have gQ:w.heap.size≤W1.heap.size:=mE.size;have lQ:W1.heap.size < W2.heap.size:=hQ.lt;have lY:Chg [] w W2:=mE.stay kI
  try rw [← kJ]
  clear kJ;refine U _ _ lY ?_;clear U K;replace hP:=hP.stay kI;(refine cd lY fun K U=>?_);go_simp;refine (Ar.new_any W2).mono ?_;rintro e W3 ⟨rfl,hA,kM⟩;have nI:Chg [] w W3:=lY.stay kM;have gA:w.heap.size≤W2.heap.size:=lY.size;refine U _ _ nI ?_;clear U K;replace hP:=hP.stay kM;replace hQ:=hQ.stay kM;have HA:=bk hA;have HP:=bk hP;have HQ:=bk hQ;have HG:=bk (ai gA (ai gP gQ));have lT:=bk (show W0.heap.size≠W1.heap.size by have:=kO.size;have:=kI.size;have:=kM.size;omega);have zQ:=bk (us W2.heap.size W0.heap.size W1.heap.size);have tY:=bk (MapB.stay HI.out.mp nI);have pM:=bk nI;clear hA hP hQ gA gP gQ lP lQ hS mE lY nI kO kI kM;go_wp2_with (first|refine cd pM.out fun K U=>?_;refine oz _ rfl rfl ?_;refine U _ _ (pM.out.alloc _) ?_;clear U K|refine vn fun K U=>?_;refine ls _ rfl zQ.out ?_ ?_;(focus (simp [Act.eval];done));refine U _ _ ?_;clear U K|refine dy fun K U=>?_;refine ir _ _ _ rfl Tryz.underlying58 Tryz.underlying3 rfl rfl rfl (MapB.stay tY.out ((av [] W3).alloc _)) ?_;intro W5 h5 kE;refine U _ _ ?_;clear U K|refine cdA fun K U=>?_|refine bn fun K U=>?_;go_simp|refine bq ?_);go_end0;exact ⟨rfl,nD.out _ _ pM.out _ _ _ HA.out HP.out HQ.out lT.out HG.out.1 HG.out.2.1 HG.out.2.2 h5 kE⟩
 ·simp only [fv,List.filterMap_cons,List.filterMap_nil,List.getElem?_cons_succ,List.getElem?_cons_zero];go_wp2_with (first|refine ca 30 _ rfl rfl (fun w' kK=>jc Tryz.underlying30 (by simpa using (aw H1.out kK ab).cell 0)) hS ?_|refine ca 58 _ rfl rfl (fun w' kK=>gy Tryz.underlying58 (eq (aw HI.out.blk kK ab)).1) hS ?_|refine ca 3 _ rfl rfl (fun w' kK=>dg Tryz.underlying3 (by simpa using (aw H4.out kK ab).cell 0)) hS ?_|refine cdA fun K U=>?_|refine bn fun K U=>?_;go_simp|refine bq ?_);(refine cd hS fun K U=>?_);go_simp;obtain ⟨W1,kP⟩:∃W,W = W0.alloc (.map #[] 0):=⟨_,rfl⟩;have kO:Chg [] W0 W1:=by rw [kP];exact (av [] _).alloc _
  have hQ:MapB W1 W0.heap.size .i64 (fun _=>none):=by rw [kP];exact MapB.new _ _
  have gQ:w.heap.size≤W0.heap.size:=hS.size;have lQ:W0.heap.size < W1.heap.size:=hQ.lt;have mE:Chg [] w W1:=hS.stay kO
  try rw [← kP]
  clear kP;refine U _ _ mE ?_;clear U K;(refine cd mE fun K U=>?_);go_simp;refine (Ar.new_any W1).mono ?_;rintro e W2 ⟨rfl,hA,kI⟩;have lY:Chg [] w W2:=mE.stay kI;have gA:w.heap.size≤W1.heap.size:=mE.size;refine U _ _ lY ?_;clear U K;replace hQ:=hQ.stay kI;(refine cd lY fun K U=>?_);go_simp;obtain ⟨W3,tK⟩:∃W,W = W2.alloc (.map #[] 0):=⟨_,rfl⟩;have kM:Chg [] W2 W3:=by rw [tK];exact (av [] _).alloc _
  have hP:MapB W3 W2.heap.size .i64 (fun _=>none):=by rw [tK];exact MapB.new _ _
  have gP:w.heap.size≤W2.heap.size:=lY.size;have lP:W2.heap.size < W3.heap.size:=hP.lt;have nI:Chg [] w W3:=lY.stay kM
  try rw [← tK]
  clear tK;refine U _ _ nI ?_;clear U K;replace hQ:=hQ.stay kM;replace hA:=hA.stay kM;have HA:=bk hA;have HP:=bk hP;have HQ:=bk hQ;have HG:=bk (ai gA (ai gP gQ));have lT:=bk (show W2.heap.size≠W0.heap.size by have:=kO.size;have:=kI.size;have:=kM.size;omega);have zQ:=bk (us W1.heap.size W2.heap.size W0.heap.size);have tY:=bk (MapB.stay HI.out.mp nI);have pM:=bk nI;clear hA hP hQ gA gP gQ lP lQ hS mE lY nI kO kI kM;go_wp2_with (first|refine cd pM.out fun K U=>?_;refine oz _ rfl rfl ?_;refine U _ _ (pM.out.alloc _) ?_;clear U K|refine vn fun K U=>?_;refine ls _ rfl zQ.out ?_ ?_;(focus (simp [Act.eval];done));refine U _ _ ?_;clear U K|refine dy fun K U=>?_;refine ir _ _ _ rfl Tryz.underlying58 Tryz.underlying3 rfl rfl rfl (MapB.stay tY.out ((av [] W3).alloc _)) ?_;intro W5 h5 kE;refine U _ _ ?_;clear U K|refine cdA fun K U=>?_|refine bn fun K U=>?_;go_simp|refine bq ?_);go_end0;exact ⟨rfl,nD.out _ _ pM.out _ _ _ HA.out HP.out HQ.out lT.out HG.out.1 HG.out.2.1 HG.out.2.2 h5 kE⟩
 ·simp only [fv,List.filterMap_cons,List.filterMap_nil,List.getElem?_cons_succ,List.getElem?_cons_zero];go_wp2_with (first|refine ca 30 _ rfl rfl (fun w' kK=>jc Tryz.underlying30 (by simpa using (aw H1.out kK ab).cell 0)) hS ?_|refine ca 58 _ rfl rfl (fun w' kK=>gy Tryz.underlying58 (eq (aw HI.out.blk kK ab)).1) hS ?_|refine ca 3 _ rfl rfl (fun w' kK=>dg Tryz.underlying3 (by simpa using (aw H4.out kK ab).cell 0)) hS ?_|refine cdA fun K U=>?_|refine bn fun K U=>?_;go_simp|refine bq ?_);(refine cd hS fun K U=>?_);go_simp;obtain ⟨W1,kP⟩:∃W,W = W0.alloc (.map #[] 0):=⟨_,rfl⟩;have kO:Chg [] W0 W1:=by rw [kP];exact (av [] _).alloc _
  have hQ:MapB W1 W0.heap.size .i64 (fun _=>none):=by rw [kP];exact MapB.new _ _
  have gQ:w.heap.size≤W0.heap.size:=hS.size;have lQ:W0.heap.size < W1.heap.size:=hQ.lt;have mE:Chg [] w W1:=hS.stay kO
  try rw [← kP]
  clear kP;refine U _ _ mE ?_;clear U K;(refine cd mE fun K U=>?_);go_simp;obtain ⟨W2,kJ⟩:∃W,W = W1.alloc (.map #[] 0):=⟨_,rfl⟩;have kI:Chg [] W1 W2:=by rw [kJ];exact (av [] _).alloc _
  have hP:MapB W2 W1.heap.size .i64 (fun _=>none):=by rw [kJ];exact MapB.new _ _
  have gP:w.heap.size≤W1.heap.size:=mE.size;have lP:W1.heap.size < W2.heap.size:=hP.lt;have lY:Chg [] w W2:=mE.stay kI
  try rw [← kJ]
  clear kJ;refine U _ _ lY ?_;clear U K;replace hQ:=hQ.stay kI;(refine cd lY fun K U=>?_);go_simp;refine (Ar.new_any W2).mono ?_;rintro e W3 ⟨rfl,hA,kM⟩;have nI:Chg [] w W3:=lY.stay kM;have gA:w.heap.size≤W2.heap.size:=lY.size;refine U _ _ nI ?_;clear U K;replace hQ:=hQ.stay kM;replace hP:=hP.stay kM;have HA:=bk hA;have HP:=bk hP;have HQ:=bk hQ;have HG:=bk (ai gA (ai gP gQ));have lT:=bk (show W1.heap.size≠W0.heap.size by have:=kO.size;have:=kI.size;have:=kM.size;omega);have zQ:=bk (us W2.heap.size W1.heap.size W0.heap.size);have tY:=bk (MapB.stay HI.out.mp nI);have pM:=bk nI;clear hA hP hQ gA gP gQ lP lQ hS mE lY nI kO kI kM;go_wp2_with (first|refine cd pM.out fun K U=>?_;refine oz _ rfl rfl ?_;refine U _ _ (pM.out.alloc _) ?_;clear U K|refine vn fun K U=>?_;refine ls _ rfl zQ.out ?_ ?_;(focus (simp [Act.eval];done));refine U _ _ ?_;clear U K|refine dy fun K U=>?_;refine ir _ _ _ rfl Tryz.underlying58 Tryz.underlying3 rfl rfl rfl (MapB.stay tY.out ((av [] W3).alloc _)) ?_;intro W5 h5 kE;refine U _ _ ?_;clear U K|refine cdA fun K U=>?_|refine bn fun K U=>?_;go_simp|refine bq ?_);go_end0;exact ⟨rfl,nD.out _ _ pM.out _ _ _ HA.out HP.out HQ.out lT.out HG.out.1 HG.out.2.1 HG.out.2.2 h5 kE⟩
abbrev bj:=@Blk.ne_map
