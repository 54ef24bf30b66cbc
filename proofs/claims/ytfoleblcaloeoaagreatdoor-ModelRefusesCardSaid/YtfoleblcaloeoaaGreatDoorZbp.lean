/- Texts merged for the claim. -/
import Derived.Test.YtfoleblcaloeoaaGreatDoorZbo
set_option maxHeartbeats 40000000
set_option maxRecDepth 20000
namespace Go.Proofs.YtfoleblcaloeoaaGreatDoor
open Go Go.RowKit
def spz (v:Value):List Value:=List.replicate 1024 (Value.int .u8 0) ++ v :: (List.replicate 1024 (Value.bool false) ++ List.replicate 2050 (Value.int .u8 0))
def zSq:Sq:=⟨fun _=>0,fun _=>none,fun _=>false,fun _=>(0,0),0,0⟩
theorem spz_sq (b:Nat):(spz (.map (some b))).toArray = sqc (sqv zSq b):=by
 apply Array.ext_getElem?
 intro j
 rw [List.getElem?_toArray]
 by_cases hj:j < 4099
 ·rw [tl _ hj]
  unfold spz sqv zSq
  by_cases h1:j < 1024
  ·rw [if_pos h1,List.getElem?_append_left (by rw [List.length_replicate];exact h1),List.getElem?_replicate,if_pos h1]
  ·rw [if_neg h1,List.getElem?_append_right (by rw [List.length_replicate];omega),List.length_replicate]
   by_cases h2:j = 1024
   ·subst h2;rfl
   ·rw [if_neg h2]
    obtain ⟨i,rfl⟩:∃i,j = 1025+i:=⟨j - 1025,by omega⟩
    rw [show 1025+i - 1024 = i+1 by omega,List.getElem?_cons_succ]
    by_cases h3:i < 1024
    ·rw [if_pos (by omega),List.getElem?_append_left (by rw [List.length_replicate];exact h3),List.getElem?_replicate,if_pos h3]
    ·rw [if_neg (by omega),List.getElem?_append_right (by rw [List.length_replicate];omega),List.length_replicate,List.getElem?_replicate,if_pos (by omega)]
     by_cases h4:1025+i < 4097
     ·rw [if_pos h4];split <;> rfl
     ·rw [if_neg h4];split <;> rfl
 ·rw [List.getElem?_eq_none (by unfold spz;rw [List.length_append,List.length_cons,List.length_append,List.length_replicate,List.length_replicate,List.length_replicate];omega),Array.getElem?_eq_none (by rw [kp];omega)]
section
variable {ops:Array Oper} {rest:List Oper} {o:Oper} {a:Act} {w:World} {Q:Exit→Act→World→Prop}
theorem yf {s:Sq} {b:Nat} (hg:o.guard = none) (z:Operand) (ho:o.op = .box 100 z) (hx:a.eval z = .agg (sqc (sqv s b)))
  (h:∀w',QB w' w.heap.size s b→Chg [] w w'→w'.heap.size = w.heap.size+1→wpList Tryz.prog ops Q rest (a.put o.dst (.pointer (some ⟨w.heap.size,0,none⟩))) w'):wpList Tryz.prog ops Q (o :: rest) a w :=
 Great.wpList_runTo hg _ rfl _ _ (by unfold execOp;simp only [ho,hx,Sem.run_bind,Instr.box,newVar,newRow,run_newObj_alloc,Sem.run_pure,Result.andThen_ok,Value.cells]) (h _ (Blk.new w _ _) ((Chg.refl [] w).alloc _) (af _ _))
theorem zc100 (b:Nat):Tryz.zeroCells100.setIfInBounds 1024 (.map (some b)) = sqc (sqv zSq b):=by
 rw [← spz_sq]
 kernel_rfl
theorem xi {b:Nat} (hg:o.guard = none) (z:Operand) (ho:o.op = .box 100 z) (hx:a.eval z = .agg (Tryz.zeroCells100.setIfInBounds 1024 (.map (some b))))
  (h:∀w',QB w' w.heap.size zSq b→Chg [] w w'→w'.heap.size = w.heap.size+1→wpList Tryz.prog ops Q rest (a.put o.dst (.pointer (some ⟨w.heap.size,0,none⟩))) w'):wpList Tryz.prog ops Q (o :: rest) a w :=
 yf hg z ho (hx.trans (by rw [zc100])) h
theorem qy {t:TypeId} {k:IntKind} (hg:o.guard = none) (ho:o.op = .makeMap t none)
  (h:∀w',MapB w' w.heap.size k (fun _=>none)→Chg [] w w'→w'.heap.size = w.heap.size+1→wpList Tryz.prog ops Q rest (a.put o.dst (.map (some w.heap.size))) w'):wpList Tryz.prog ops Q (o :: rest) a w :=
 Great.wpList_runTo hg _ rfl _ _ (by unfold execOp;simp only [ho,Option.map_none,Sem.run_bind,run_makeMap,Sem.run_pure,Result.andThen_ok]) (h _ (MapB.new w k) ((Chg.refl [] w).alloc _) (af _ _))
end
theorem RelP.zero:RelP jf zSq:=by
 refine ⟨fun q _=>rfl,fun a _ _=>?_,fun a v h=>(by cases h),fun _ _=>rfl,fun q _ v h=>(by cases h),rfl,rfl⟩
 show 0 = zeroPg.getD (a % 256).toNat 0
 unfold zeroPg
 rw [List.getD_eq_getElem?_getD,List.getElem?_replicate]
 split <;> rfl
section
variable {w w':World} {m:Nat} {M:Mo} {sp:Nat→Option Nat} {vo ve:Value} {L:List Ob} {E:List Nat} {gb gm:Nat→Nat} {gs:Nat→Sq}
theorem WIn.spawn (h:WIn w m M sp vo ve L E gb gm gs) (jF:∀k,FW' M m vo ve L gb gm k→k < w.heap.size) {t:Nat} (ht:1≤t∧t≤8) {b bm:Nat} (hc:Chg [] w w') (hq:QB w' b zSq bm) (hm:MapB w' bm .i64 (byF zSq)) (hb:w.heap.size≤b) (rD:w.heap.size≤bm) :
  WIn (w'.setCell ⟨m,94+t,none⟩ (.pointer (some ⟨b,0,none⟩))) m { M with pr:=upd M.pr t (some jf) } (upN sp t (some b)) vo ve L E (upN gb t b) (upN gm t bm) (upN gs t zSq):=by
 have h2:=h.stay hc
 have pL:=jF m (.inl rfl)
 have jA:Chg [m] w' (w'.setCell ⟨m,94+t,none⟩ (.pointer (some ⟨b,0,none⟩))):=(Chg.refl [m] w').setCell (p:=⟨m,94+t,none⟩) (.inl (by simp)) _
 have old:∀(i:Nat) q,upd M.pr t (some jf) i = some q→i≠t→M.pr i = some q:=fun i q pN jO=>by
  unfold upd at pN
  rwa [if_neg (by omega)] at pN
 have glt:∀(i:Nat) q,M.pr i = some q→gb i < w.heap.size∧gm i < w.heap.size:=fun i q hi=>⟨jF _ (.inr (.inr (.inr (.inr ⟨i,q,hi,.inl rfl⟩)))),jF _ (.inr (.inr (.inr (.inr ⟨i,q,hi,.inr rfl⟩))))⟩
 refine ⟨WB.set_sp h2.blk (by omega) (some b),h2.ob.chg jA (fun k hk=>?_) (fun o ho k hk=>?_),h2.ev.chg jA (fun k hk=>?_),fun i hi=>?_,fun z q hz=>?_,fun i q hi=>?_,fun i i' q q' hi qG jO=>?_⟩
 ·simp;exact fun e=>SE.not_blk h2.ob.sl h2.blk (by decide) (e ▸ hk)
 ·simp;exact fun e=>SE.not_blk (h2.ob.bt o ho).1 h2.blk (by decide) (e ▸ hk)
 ·simp;exact fun e=>SE.not_blk h2.ev.sl h2.blk (by decide) (e ▸ hk)
 ·show upN sp t (some b) i = (upd M.pr t (some jf) i).map fun _=>upN gb t b i
  unfold upN upd
  by_cases e:i = t
  ·rw [if_pos e,if_pos (show (i:Int) = t by omega)]
   show some b = some (if i = t then b else gb i)
   rw [if_pos e]
  ·rw [if_neg e,if_neg (show ¬ (i:Int) = t by omega),h.sp i hi]
   congr 1
   funext _
   rw [if_neg e]
 ·have zU:upd M.pr t (some jf) z = some q:=hz
  unfold upd at zU
  by_cases e:z = t
  ·omega
  ·rw [if_neg e] at zU;exact h.rng z q zU
 ·by_cases e:i = t
  ·subst e
   have qG:upd M.pr i (some jf) i = some q:=hi
   unfold upd at qG
   rw [if_pos rfl] at qG
   obtain rfl:=Option.some.inj qG
   rw [show upN gb i b i = b from if_pos rfl,show upN gm i bm i = bm from if_pos rfl,show upN gs i zSq i = zSq from if_pos rfl]
   exact ⟨Blk.chg hq jA (by simp;omega),hm.chg jA (by simp;omega),RelP.zero⟩
  ·have hp:=old i q hi e
   obtain ⟨c1,c2,c3⟩:=h2.pr i q hp
   rw [show upN gb t b i = gb i from if_neg e,show upN gm t bm i = gm i from if_neg e,show upN gs t zSq i = gs i from if_neg e]
   exact ⟨Blk.chg c1 jA (by simp;exact fun x=>Blk.ne_ h2.blk c1 (by decide) x.symm),c2.chg jA (by simp;exact fun x=>Blk.ne_map h2.blk c2 x.symm),c3⟩
 ·by_cases e:i = t
  ·have e':i'≠t:=fun x=>jO (e.trans x.symm)
   have hg:=glt i' q' (old i' q' qG e')
   rw [show upN gb t b i = b from if_pos e,show upN gm t bm i = bm from if_pos e,show upN gb t b i' = gb i' from if_neg e',show upN gm t bm i' = gm i' from if_neg e']
   omega
  ·have hp:=old i q hi e
   have hg:=glt i q hp
   rw [show upN gb t b i = gb i from if_neg e,show upN gm t bm i = gm i from if_neg e]
   by_cases e':i' = t
   ·rw [show upN gb t b i' = b from if_pos e',show upN gm t bm i' = bm from if_pos e']
    omega
   ·rw [show upN gb t b i' = gb i' from if_neg e',show upN gm t bm i' = gm i' from if_neg e']
    exact h.ib i i' q q' hp (old i' q' qG e') jO
end
theorem iL {M:Mo} {t:Nat} (h1:1≤t) (h8:t≤8) (jZ:∀j:Nat,1≤j→j < t→M.pr j≠none) (ht:M.pr t = none):pids.find? (fun p=>(M.pr p).isNone) = some (t:Int):=by
 have hl:pids.length = 8:=rfl
 have hp:∀i (h:i < pids.length),pids[i] = ((i+1:Nat):Int):=by
  intro i h
  have h':i < 8:=h
  match i,h' with
  | 0,_=>rfl
  | 1,_=>rfl
  | 2,_=>rfl
  | 3,_=>rfl
  | 4,_=>rfl
  | 5,_=>rfl
  | 6,_=>rfl
  | 7,_=>rfl
 rw [List.find?_eq_some_iff_getElem]
 refine ⟨by rw [ht];rfl,t - 1,(show t - 1 < pids.length by rw [hl];omega),?_,fun j hj=>?_⟩
 ·rw [hp (t - 1) (by rw [hl];omega),show t - 1+1 = t by omega]
 ·rw [hp j (by rw [hl];omega)]
  have:=jZ (j+1) (by omega) (by omega)
  cases h:M.pr ((j+1:Nat):Int) with
  | none=>exact absurd h this
  | some p=>rfl
theorem iM {M:Mo} (jZ:∀j:Nat,1≤j→j < 9→M.pr j≠none):pids.find? (fun p=>(M.pr p).isNone) = none:=by
 rw [List.find?_eq_none]
 intro z hz
 have:∃j:Nat,1≤j∧j < 9∧z = j:=by
  unfold pids at hz
  simp at hz
  exact ⟨z.toNat,by omega,by omega,by omega⟩
 obtain ⟨j,a1,a2,rfl⟩:=this
 cases h:M.pr (j:Int) with
 | none=>exact absurd h (jZ j a1 a2)
 | some p=>simp
def doA (M:Mo) (x:Cl):Rs × Option Mo:=if x.k = 10 then (aq 0,none) else bj M x 0
theorem DoR.fin {w W w1 w2:World} {m:Nat} {M:Mo} {vo ve:Value} {L:List Ob} {E:List Nat} {gb gm:Nat→Nat} {R:Rs × Option Mo} {e:Ending} (jF:∀k,FW' M m vo ve L gb gm k→k < w.heap.size) (nH:Chg [] w W) (hD:DoR W w1 m M vo ve L E gb gm R e) {b:Nat} (hc:Chg [b] w1 w2) (hb:w.heap.size≤b) (kU:b < W.heap.size):DoR w w2 m M vo ve L E gb gm R e:=by
 obtain ⟨A,k,c,h1,h2,h3,h4,sp',vo',L',gb',gm',gs',h5,h6,h7⟩:=hD
 have qU:=nH.size
 have pC:=h4.size
 have oH:=hc.size
 refine ⟨A,k,c,h1,RE.chg h2 hc (fun y hy=>?_),fun y hy=>by have:=h3 y hy;omega,?_,sp',vo',L',gb',gm',gs',h5.cp (CP.of (F:=fun k=>k = b) hc (fun y hy=>.inl (aa hy))) (fun y hy e=>?_),h6,fun y hy=>?_⟩
 ·have:=h3 y hy;simp;omega
 ·have e1:CP (FW' M m vo ve L gb gm) w W:=CP.of0 nH
  have e2:=e1.trans h4 (fun x hx=>.inl hx)
  exact e2.trans (CP.of (F:=fun k=>k = b) hc (fun y hy=>.inl (aa hy))) (fun x hx=>.inr (by omega))
 ·rcases h7 y hy with ⟨h,h'⟩ | h
  ·have:=jF y h;omega
  ·omega
 ·rcases h7 y hy with ⟨h,h'⟩ | ⟨h,h'⟩
  ·exact .inl ⟨h,by omega⟩
  ·exact .inr ⟨by omega,by omega⟩
theorem DoR.told {w w1:World} {m:Nat} {M:Mo} {sp:Nat→Option Nat} {vo ve:Value} {L:List Ob} {E:List Nat} {gb gm:Nat→Nat} {gs:Nat→Sq} {z:Int} (h:WIn w m M sp vo ve L E gb gm gs) (jF:∀k,FW' M m vo ve L gb gm k→k < w.heap.size) (hc:Chg [] w w1):DoR w w1 m M vo ve L E gb gm (aq z,none) (.returned (.agg (rsc (aq z) zV))):=by
 refine ⟨none,0,0,rfl,RE.nil ucl 1 _ none 0,fun _ hk=>(bw hk).elim,CP.of0 hc,sp,vo,L,gb,gm,gs,?_,Nat.le_refl _,fun y hy=>.inl ⟨?_,?_⟩⟩
 ·have:=h.stay hc
  split <;> exact this
 ·have e:(if (aq z,(none:Option Mo)).1.e = 0 then (aq z,(none:Option Mo)).2.getD M else M) = M:=by split <;> rfl
  rw [e] at hy
  exact hy
 ·have e:(if (aq z,(none:Option Mo)).1.e = 0 then (aq z,(none:Option Mo)).2.getD M else M) = M:=by split <;> rfl
  rw [e] at hy
  exact Nat.lt_of_lt_of_le (jF y hy) hc.size
theorem do10_any {w:World} {m:Nat} {M:Mo} {sp:Nat→Option Nat} {vo ve:Value} {L:List Ob} {E:List Nat} {gb gm:Nat→Nat} {gs:Nat→Sq} (h:WIn w m M sp vo ve L E gb gm gs) (jF:∀k,FW' M m vo ve L gb gm k→k < w.heap.size)
  {x:Cl} (hx:x.Ok) (hk:x.k = 10∨x.k = 19∨x.k = 20∨x.k = 21) (v:Value) (hv:v.oneCell' = true) (hvb:RB w v x.l) :
  Calls Tryz.prog 37 #[.pointer (some ⟨m,0,none⟩),.agg (clc x v)] w fun e w'=>DoR w w' m M vo ve L E gb gm (doA M x) e:=by
 obtain ⟨W1,jG⟩:∃W1,W1 = w.alloc (.cells (clc x v) 47):=⟨_,rfl⟩
 obtain ⟨W2,jB⟩:∃W2,W2 = W1.alloc (.cells (rsc zRs zV) 40):=⟨_,rfl⟩
 have c01:Chg [] w W1:=by rw [jG];exact (Chg.refl [] w).alloc _
 have c12:Chg [] W1 W2:=by rw [jB];exact (Chg.refl [] W1).alloc _
 have kG:KB W2 w.heap.size x v:=KB.stay (by rw [jG];exact Blk.new w _ _) c12
 have kJ:XB W2 W1.heap.size zRs zV:=by rw [jB];exact Blk.new W1 _ _
 have e1:W1.heap.size = w.heap.size+1:=by rw [jG];exact af _ _
 have e2:W2.heap.size = w.heap.size+2:=by rw [jB,af];omega
 obtain ⟨b3,jS⟩:∃y,y = w.heap.size:=⟨_,rfl⟩
 obtain ⟨b4,kQ⟩:∃y,y = W1.heap.size:=⟨_,rfl⟩
 rw [← jS] at kG
 rw [← kQ] at kJ
 have HI:=ah (fun W (hc:Chg [] W2 W)=>h.stay ((c01.stay c12).stay hc))
 have kY:=ah (fun W (hc:Chg [] W2 W)=>(KB.stay kG hc:KB W b3 x v))
 have kD:=ah (fun W (hc:Chg [] W2 W)=>(XB.stay kJ hc:XB W b4 zRs zV))
 have jJ:=ah (c01.stay c12)
 have kW:=ah jG
 have jP:=ah jB
 have HB:=ah (show b3 = w.heap.size∧b4 = w.heap.size+1∧W2.heap.size = w.heap.size+2 by omega)
 have jY:=ah jS
 have jW:=ah kQ
 have jK:=ah jF
 have mO:=ah (fun k hk=>Nat.lt_of_lt_of_le (jF k hk) (c01.stay c12).size)
 have HK:=ah hk
 have pR:=ah hx
 have HV:=ah (fun W (hc:Chg [] W2 W)=>RE.stay hvb ((c01.stay c12).stay hc))
 have CG:=ah hv
 skip
 obtain ⟨RR,kB⟩:∃R,R = doA M x:=⟨_,rfl⟩
 rw [← kB]
 have jC:=ah kB
 clear h jF hx hv c01 c12 kG kJ e1 e2 jS kQ jG jB kB hvb hk
 go_enter Tryz.func37,Tryz.ntmps37
 go_upto_region 1 with (first|refine ax rfl _ rfl rfl ?_;try rw [← kW.out]|refine bn rfl rfl ?_;try rw [← jP.out])
 try rw [← jY.out,← jW.out]
 obtain ⟨r0,r1,-,-,-,-,-,-,-,-,-,-,rl,-⟩:=KB.cells (kY.out W2 (Chg.refl _ _))
 obtain rfl:RR = (aq 0,none):=by rw [jC.out];unfold doA bj;rcases HK.out with h | h | h | h <;> rw [h] <;> rfl
 rcases HK.out with hk | hk | hk | hk <;> rw [hk] at r0 <;> clear hk
 ·go_wp2_with fail
  refine (dd 0 _).mono ?_
  rintro e W5 ⟨rfl,U⟩
  have jL:=ah U
  clear U
  go_wp2_with (first|refine au (b:=b4) (x:=zRs) (v:=zV) (y:=aq 0) (u:=zV) rfl _ _ rfl rfl rfl rfl (kD.out W5 jL.out) ?_;intro W6 h6 iZ)
  refine bodyPost_ret (v:=.agg (rsc (aq 0) zV)) (results_cell_row (p:=4) (ty:=40) rfl _ _ b4 40 _ (0,0) _ rfl h6 Tryz.underlying40 rfl ct) rfl ?_
  exact DoR.fin jK.out jJ.out (DoR.told (HI.out W2 (Chg.refl _ _)) mO.out jL.out) iZ (by have:=HB.out;omega) (by have:=HB.out;omega)
 ·go_wp2_with fail
  refine (dd 0 _).mono ?_
  rintro e W5 ⟨rfl,U⟩
  have jL:=ah U
  clear U
  go_wp2_with (first|refine au (b:=b4) (x:=zRs) (v:=zV) (y:=aq 0) (u:=zV) rfl _ _ rfl rfl rfl rfl (kD.out W5 jL.out) ?_;intro W6 h6 iZ)
  refine bodyPost_ret (v:=.agg (rsc (aq 0) zV)) (results_cell_row (p:=4) (ty:=40) rfl _ _ b4 40 _ (0,0) _ rfl h6 Tryz.underlying40 rfl ct) rfl ?_
  exact DoR.fin jK.out jJ.out (DoR.told (HI.out W2 (Chg.refl _ _)) mO.out jL.out) iZ (by have:=HB.out;omega) (by have:=HB.out;omega)
 ·go_wp2_with fail
  refine (dd 0 _).mono ?_
  rintro e W5 ⟨rfl,U⟩
  have jL:=ah U
  clear U
  go_wp2_with (first|refine au (b:=b4) (x:=zRs) (v:=zV) (y:=aq 0) (u:=zV) rfl _ _ rfl rfl rfl rfl (kD.out W5 jL.out) ?_;intro W6 h6 iZ)
  refine bodyPost_ret (v:=.agg (rsc (aq 0) zV)) (results_cell_row (p:=4) (ty:=40) rfl _ _ b4 40 _ (0,0) _ rfl h6 Tryz.underlying40 rfl ct) rfl ?_
  exact DoR.fin jK.out jJ.out (DoR.told (HI.out W2 (Chg.refl _ _)) mO.out jL.out) iZ (by have:=HB.out;omega) (by have:=HB.out;omega)
 ·go_wp2_with fail
  refine (dd 0 _).mono ?_
  rintro e W5 ⟨rfl,U⟩
  have jL:=ah U
  clear U
  go_wp2_with (first|refine au (b:=b4) (x:=zRs) (v:=zV) (y:=aq 0) (u:=zV) rfl _ _ rfl rfl rfl rfl (kD.out W5 jL.out) ?_;intro W6 h6 iZ)
  refine bodyPost_ret (v:=.agg (rsc (aq 0) zV)) (results_cell_row (p:=4) (ty:=40) rfl _ _ b4 40 _ (0,0) _ rfl h6 Tryz.underlying40 rfl ct) rfl ?_
  exact DoR.fin jK.out jJ.out (DoR.told (HI.out W2 (Chg.refl _ _)) mO.out jL.out) iZ (by have:=HB.out;omega) (by have:=HB.out;omega)
theorem do11_any {w:World} {m:Nat} {M:Mo} {sp:Nat→Option Nat} {vo ve:Value} {L:List Ob} {E:List Nat} {gb gm:Nat→Nat} {gs:Nat→Sq} (h:WIn w m M sp vo ve L E gb gm gs) (jF:∀k,FW' M m vo ve L gb gm k→k < w.heap.size)
  {x:Cl} (hx:x.Ok) (hL:L.length≤500000) (hk:x.k = 11∨x.k = 12∨x.k = 13) (hw:ci M.c x = false) (v:Value) (hv:v.oneCell' = true) (hvb:RB w v x.l) (hdj:x.l≠[]→∀k∈own v,¬ FW' M m vo ve L gb gm k) :
  Calls Tryz.prog 37 #[.pointer (some ⟨m,0,none⟩),.agg (clc x v)] w fun e w'=>DoR w w' m M vo ve L E gb gm (doA M x) e:=by
 obtain ⟨W1,jG⟩:∃W1,W1 = w.alloc (.cells (clc x v) 47):=⟨_,rfl⟩
 obtain ⟨W2,jB⟩:∃W2,W2 = W1.alloc (.cells (rsc zRs zV) 40):=⟨_,rfl⟩
 have c01:Chg [] w W1:=by rw [jG];exact (Chg.refl [] w).alloc _
 have c12:Chg [] W1 W2:=by rw [jB];exact (Chg.refl [] W1).alloc _
 have kG:KB W2 w.heap.size x v:=KB.stay (by rw [jG];exact Blk.new w _ _) c12
 have kJ:XB W2 W1.heap.size zRs zV:=by rw [jB];exact Blk.new W1 _ _
 have e1:W1.heap.size = w.heap.size+1:=by rw [jG];exact af _ _
 have e2:W2.heap.size = w.heap.size+2:=by rw [jB,af];omega
 obtain ⟨b3,jS⟩:∃y,y = w.heap.size:=⟨_,rfl⟩
 obtain ⟨b4,kQ⟩:∃y,y = W1.heap.size:=⟨_,rfl⟩
 rw [← jS] at kG
 rw [← kQ] at kJ
 have HI:=ah (fun W (hc:Chg [] W2 W)=>h.stay ((c01.stay c12).stay hc))
 have kY:=ah (fun W (hc:Chg [] W2 W)=>(KB.stay kG hc:KB W b3 x v))
 have kD:=ah (fun W (hc:Chg [] W2 W)=>(XB.stay kJ hc:XB W b4 zRs zV))
 have jJ:=ah (c01.stay c12)
 have kW:=ah jG
 have jP:=ah jB
 have HB:=ah (show b3 = w.heap.size∧b4 = w.heap.size+1∧W2.heap.size = w.heap.size+2 by omega)
 have jY:=ah jS
 have jW:=ah kQ
 have jK:=ah jF
 have mO:=ah (fun k hk=>Nat.lt_of_lt_of_le (jF k hk) (c01.stay c12).size)
 have HK:=ah hk
 have pR:=ah hx
 have HV:=ah (fun W (hc:Chg [] W2 W)=>RE.stay hvb ((c01.stay c12).stay hc))
 have CG:=ah hv
 have HL:=ah hL;have HW:=ah hw;have HDJ:=ah hdj
 obtain ⟨RR,kB⟩:∃R,R = doA M x:=⟨_,rfl⟩
 rw [← kB]
 have jC:=ah kB
 clear h jF hx hv c01 c12 kG kJ e1 e2 jS kQ jG jB kB hvb hk hL hw hdj
 go_enter Tryz.func37,Tryz.ntmps37
 go_upto_region 1 with (first|refine ax rfl _ rfl rfl ?_;try rw [← kW.out]|refine bn rfl rfl ?_;try rw [← jP.out])
 try rw [← jY.out,← jW.out]
 obtain ⟨r0,r1,-,-,-,-,-,-,-,-,-,-,rl,-⟩:=KB.cells (kY.out W2 (Chg.refl _ _))
 obtain rfl:RR = fh M x:=by rw [jC.out];unfold doA bj;rcases HK.out with h | h | h <;> rw [h] <;> rfl
 rcases HK.out with hk | hk | hk <;> rw [hk] at r0
 ·have xW:=ah (aG (HI.out W2 (Chg.refl _ _)) mO.out pR.out HL.out hk v CG.out (HV.out W2 (Chg.refl _ _)))
  clear hk
  go_wp2_with (first|refine ck (b:=b3) (x:=x) (v:=v) rfl _ rfl rfl (kY.out W2 (Chg.refl _ _)) ?_)
  refine xW.out.mono ?_
  rintro e W5 hD
  obtain ⟨A5,k5,c5,rfl,uG⟩:=show ∃A k c,e = .returned (.agg (rsc (fh M x).1 (.slice A k c)))∧DoR W2 W5 m M vo ve L E gb gm (fh M x) e from by have uF:=hD;obtain ⟨A,k,c,h1,-⟩:=uF;exact ⟨A,k,c,h1,hD⟩
  have HD:=ah uG
  have uE:=ah (show XB W5 b4 zRs zV from Blk.cp (kD.out W2 (Chg.refl _ _)) (show CP (FW' M m vo ve L gb gm) W2 W5 from by have uF:=uG;obtain ⟨-,-,-,-,-,-,h4,-⟩:=uF;exact h4) (fun hk=>by have:=jK.out b4 hk;have:=HB.out;omega))
  clear hD uG
  go_wp2_with (first|refine au (b:=b4) (x:=zRs) (v:=zV) (y:=(fh M x).1) (u:=.slice A5 k5 c5) rfl _ _ rfl rfl rfl rfl uE.out ?_;intro W6 h6 iZ)
  refine bodyPost_ret (v:=.agg (rsc (fh M x).1 (.slice A5 k5 c5))) (results_cell_row (p:=4) (ty:=40) rfl _ _ b4 40 _ (0,0) _ rfl h6 Tryz.underlying40 rfl ct) rfl ?_
  exact DoR.fin jK.out jJ.out HD.out iZ (by have:=HB.out;omega) (by have:=HB.out;omega)
 ·have xW:=ah (aH (HI.out W2 (Chg.refl _ _)) mO.out pR.out HL.out hk HW.out v CG.out (HV.out W2 (Chg.refl _ _)))
  clear hk
  go_wp2_with (first|refine ck (b:=b3) (x:=x) (v:=v) rfl _ rfl rfl (kY.out W2 (Chg.refl _ _)) ?_)
  refine xW.out.mono ?_
  rintro e W5 hD
  obtain ⟨A5,k5,c5,rfl,uG⟩:=show ∃A k c,e = .returned (.agg (rsc (fh M x).1 (.slice A k c)))∧DoR W2 W5 m M vo ve L E gb gm (fh M x) e from by have uF:=hD;obtain ⟨A,k,c,h1,-⟩:=uF;exact ⟨A,k,c,h1,hD⟩
  have HD:=ah uG
  have uE:=ah (show XB W5 b4 zRs zV from Blk.cp (kD.out W2 (Chg.refl _ _)) (show CP (FW' M m vo ve L gb gm) W2 W5 from by have uF:=uG;obtain ⟨-,-,-,-,-,-,h4,-⟩:=uF;exact h4) (fun hk=>by have:=jK.out b4 hk;have:=HB.out;omega))
  clear hD uG
  go_wp2_with (first|refine au (b:=b4) (x:=zRs) (v:=zV) (y:=(fh M x).1) (u:=.slice A5 k5 c5) rfl _ _ rfl rfl rfl rfl uE.out ?_;intro W6 h6 iZ)
  refine bodyPost_ret (v:=.agg (rsc (fh M x).1 (.slice A5 k5 c5))) (results_cell_row (p:=4) (ty:=40) rfl _ _ b4 40 _ (0,0) _ rfl h6 Tryz.underlying40 rfl ct) rfl ?_
  exact DoR.fin jK.out jJ.out HD.out iZ (by have:=HB.out;omega) (by have:=HB.out;omega)
 ·have xW:=ah (aI (HI.out W2 (Chg.refl _ _)) mO.out pR.out HL.out hk HW.out v CG.out (HV.out W2 (Chg.refl _ _)) HDJ.out)
  clear hk
  go_wp2_with (first|refine ck (b:=b3) (x:=x) (v:=v) rfl _ rfl rfl (kY.out W2 (Chg.refl _ _)) ?_)
  refine xW.out.mono ?_
  rintro e W5 hD
  obtain ⟨A5,k5,c5,rfl,uG⟩:=show ∃A k c,e = .returned (.agg (rsc (fh M x).1 (.slice A k c)))∧DoR W2 W5 m M vo ve L E gb gm (fh M x) e from by have uF:=hD;obtain ⟨A,k,c,h1,-⟩:=uF;exact ⟨A,k,c,h1,hD⟩
  have HD:=ah uG
  have uE:=ah (show XB W5 b4 zRs zV from Blk.cp (kD.out W2 (Chg.refl _ _)) (show CP (FW' M m vo ve L gb gm) W2 W5 from by have uF:=uG;obtain ⟨-,-,-,-,-,-,h4,-⟩:=uF;exact h4) (fun hk=>by have:=jK.out b4 hk;have:=HB.out;omega))
  clear hD uG
  go_wp2_with (first|refine au (b:=b4) (x:=zRs) (v:=zV) (y:=(fh M x).1) (u:=.slice A5 k5 c5) rfl _ _ rfl rfl rfl rfl uE.out ?_;intro W6 h6 iZ)
  refine bodyPost_ret (v:=.agg (rsc (fh M x).1 (.slice A5 k5 c5))) (results_cell_row (p:=4) (ty:=40) rfl _ _ b4 40 _ (0,0) _ rfl h6 Tryz.underlying40 rfl ct) rfl ?_
  exact DoR.fin jK.out jJ.out HD.out iZ (by have:=HB.out;omega) (by have:=HB.out;omega)
theorem do2_any {w:World} {m:Nat} {M:Mo} {sp:Nat→Option Nat} {vo ve:Value} {L:List Ob} {E:List Nat} {gb gm:Nat→Nat} {gs:Nat→Sq} (h:WIn w m M sp vo ve L E gb gm gs) (jF:∀k,FW' M m vo ve L gb gm k→k < w.heap.size)
  {x:Cl} (hx:x.Ok) (nS:MoOk M) (hk:x.k≠1∧x.k≠10∧x.k≠11∧x.k≠12∧x.k≠13∧x.k≠19∧x.k≠20∧x.k≠21) (hw:ci M.c x = false) (v:Value) (hv:v.oneCell' = true) (hvb:RB w v x.l) :
  Calls Tryz.prog 37 #[.pointer (some ⟨m,0,none⟩),.agg (clc x v)] w fun e w'=>DoR w w' m M vo ve L E gb gm (doA M x) e:=by
 obtain ⟨W1,jG⟩:∃W1,W1 = w.alloc (.cells (clc x v) 47):=⟨_,rfl⟩
 obtain ⟨W2,jB⟩:∃W2,W2 = W1.alloc (.cells (rsc zRs zV) 40):=⟨_,rfl⟩
 have c01:Chg [] w W1:=by rw [jG];exact (Chg.refl [] w).alloc _
 have c12:Chg [] W1 W2:=by rw [jB];exact (Chg.refl [] W1).alloc _
 have kG:KB W2 w.heap.size x v:=KB.stay (by rw [jG];exact Blk.new w _ _) c12
 have kJ:XB W2 W1.heap.size zRs zV:=by rw [jB];exact Blk.new W1 _ _
 have e1:W1.heap.size = w.heap.size+1:=by rw [jG];exact af _ _
 have e2:W2.heap.size = w.heap.size+2:=by rw [jB,af];omega
 obtain ⟨b3,jS⟩:∃y,y = w.heap.size:=⟨_,rfl⟩
 obtain ⟨b4,kQ⟩:∃y,y = W1.heap.size:=⟨_,rfl⟩
 rw [← jS] at kG
 rw [← kQ] at kJ
 have HI:=ah (fun W (hc:Chg [] W2 W)=>h.stay ((c01.stay c12).stay hc))
 have kY:=ah (fun W (hc:Chg [] W2 W)=>(KB.stay kG hc:KB W b3 x v))
 have kD:=ah (fun W (hc:Chg [] W2 W)=>(XB.stay kJ hc:XB W b4 zRs zV))
 have jJ:=ah (c01.stay c12)
 have kW:=ah jG
 have jP:=ah jB
 have HB:=ah (show b3 = w.heap.size∧b4 = w.heap.size+1∧W2.heap.size = w.heap.size+2 by omega)
 have jY:=ah jS
 have jW:=ah kQ
 have jK:=ah jF
 have mO:=ah (fun k hk=>Nat.lt_of_lt_of_le (jF k hk) (c01.stay c12).size)
 have HK:=ah hk
 have pR:=ah hx
 have HV:=ah (fun W (hc:Chg [] W2 W)=>RE.stay hvb ((c01.stay c12).stay hc))
 have CG:=ah hv
 have rJ:=ah nS;have HW:=ah hw
 obtain ⟨RR,kB⟩:∃R,R = doA M x:=⟨_,rfl⟩
 rw [← kB]
 have jC:=ah kB
 clear h jF hx hv c01 c12 kG kJ e1 e2 jS kQ jG jB kB hvb hk nS hw
 go_enter Tryz.func37,Tryz.ntmps37
 go_upto_region 1 with (first|refine ax rfl _ rfl rfl ?_;try rw [← kW.out]|refine bn rfl rfl ?_;try rw [← jP.out])
 try rw [← jY.out,← jW.out]
 obtain ⟨r0,r1,-,-,-,-,-,-,-,-,-,-,rl,-⟩:=KB.cells (kY.out W2 (Chg.refl _ _))
 obtain ⟨k1,k2,k3,k4,k5,k6,k7,k8⟩:=HK.out
 have d1:((x.k:Int) == 1) = false:=beq_false_of_ne (by omega)
 have d2:((x.k:Int) == 10) = false:=beq_false_of_ne (by omega)
 have d3:((x.k:Int) == 11) = false:=beq_false_of_ne (by omega)
 have d4:((x.k:Int) == 12) = false:=beq_false_of_ne (by omega)
 have d5:((x.k:Int) == 13) = false:=beq_false_of_ne (by omega)
 have d6:((x.k:Int) == 19) = false:=beq_false_of_ne (by omega)
 have d7:((x.k:Int) == 20) = false:=beq_false_of_ne (by omega)
 have d8:((x.k:Int) == 21) = false:=beq_false_of_ne (by omega)
 have hR:RR = match M.pr x.p with | none=>(aq 7,none) | some p=>cd M x 0 p:=by
  rw [jC.out];unfold doA bj
  rw [if_neg k2,if_neg k1,if_neg k2,if_neg (by omega),if_neg (by omega)]
  cases M.pr x.p <;> rfl
 clear k1 k2 k3 k4 k5 k6 k7 k8
 obtain ⟨zk,Bu⟩:∃z:Int,z = (x.k:Int):=⟨_,rfl⟩
 rw [← Bu] at r0 d1 d2 d3 d4 d5 d6 d7 d8
 have HR:=ah hR
 clear hR Bu
 go_wp2_with fail
 refine (gK (HI.out W2 (Chg.refl _ _)) x.p).mono ?_
 rintro e W4 ⟨rfl,rfl⟩
 cases hp:M.pr x.p with
 | none =>
  obtain rfl:RR = (aq 7,none):=by rw [HR.out,hp]
  clear hp
  go_wp2_with fail
  refine (dd 7 _).mono ?_
  rintro e W5 ⟨rfl,U⟩
  have jL:=ah U
  clear U
  go_wp2_with (first|refine au (b:=b4) (x:=zRs) (v:=zV) (y:=aq 7) (u:=zV) rfl _ _ rfl rfl rfl rfl (kD.out W5 jL.out) ?_;intro W6 h6 iZ)
  refine bodyPost_ret (v:=.agg (rsc (aq 7) zV)) (results_cell_row (p:=4) (ty:=40) rfl _ _ b4 40 _ (0,0) _ rfl h6 Tryz.underlying40 rfl ct) rfl ?_
  exact DoR.fin jK.out jJ.out (DoR.told (HI.out W2 (Chg.refl _ _)) mO.out jL.out) iZ (by have:=HB.out;omega) (by have:=HB.out;omega)
 | some p =>
  have hR:=HR.out
  rw [hp] at hR
  have hrg:=(HI.out W2 (Chg.refl _ _)).rng _ _ hp
  obtain ⟨n,hn⟩:∃n:Nat,x.p = n:=⟨x.p.toNat,by omega⟩
  have lI:=ah (iT (HI.out W2 (Chg.refl _ _)) mO.out pR.out hn (by rw [← hn];exact hp) rJ.out HW.out HK.out v CG.out (HV.out W2 (Chg.refl _ _)))
  rw [hn,Int.toNat_natCast]
  have CC:=ah (show cd M x 0 p = RR from hR.symm)
  rw [CC.out] at lI
  clear hp hR hrg hn HR
  go_wp2_with (first|refine ck (b:=b3) (x:=x) (v:=v) rfl _ rfl rfl (kY.out W2 (Chg.refl _ _)) ?_)
  refine lI.out.mono ?_
  rintro e W5 hD
  obtain ⟨A5,k5,c5,rfl,uG⟩:=show ∃A k c,e = .returned (.agg (rsc RR.1 (.slice A k c)))∧DoR W2 W5 m M vo ve L E gb gm RR e from by have uF:=hD;obtain ⟨A,k,c,h1,-⟩:=uF;exact ⟨A,k,c,h1,hD⟩
  have HD:=ah uG
  have uE:=ah (show XB W5 b4 zRs zV from Blk.cp (kD.out W2 (Chg.refl _ _)) (show CP (FW' M m vo ve L gb gm) W2 W5 from by have uF:=uG;obtain ⟨-,-,-,-,-,-,h4,-⟩:=uF;exact h4) (fun hk=>by have:=jK.out b4 hk;have:=HB.out;omega))
  clear hD uG
  go_wp2_with (first|refine au (b:=b4) (x:=zRs) (v:=zV) (y:=RR.1) (u:=.slice A5 k5 c5) rfl _ _ rfl rfl rfl rfl uE.out ?_;intro W6 h6 iZ)
  refine bodyPost_ret (v:=.agg (rsc RR.1 (.slice A5 k5 c5))) (results_cell_row (p:=4) (ty:=40) rfl _ _ b4 40 _ (0,0) _ rfl h6 Tryz.underlying40 rfl ct) rfl ?_
  exact DoR.fin jK.out jJ.out HD.out iZ (by have:=HB.out;omega) (by have:=HB.out;omega)
theorem do1_any {w:World} {m:Nat} {M:Mo} {sp:Nat→Option Nat} {vo ve:Value} {L:List Ob} {E:List Nat} {gb gm:Nat→Nat} {gs:Nat→Sq} (h:WIn w m M sp vo ve L E gb gm gs) (jF:∀k,FW' M m vo ve L gb gm k→k < w.heap.size)
  {x:Cl} (hx:x.Ok) (hk:x.k = 1) (v:Value) (hv:v.oneCell' = true) (hvb:RB w v x.l) :
  Calls Tryz.prog 37 #[.pointer (some ⟨m,0,none⟩),.agg (clc x v)] w fun e w'=>DoR w w' m M vo ve L E gb gm (doA M x) e:=by
 obtain ⟨W1,jG⟩:∃W1,W1 = w.alloc (.cells (clc x v) 47):=⟨_,rfl⟩
 obtain ⟨W2,jB⟩:∃W2,W2 = W1.alloc (.cells (rsc zRs zV) 40):=⟨_,rfl⟩
 have c01:Chg [] w W1:=by rw [jG];exact (Chg.refl [] w).alloc _
 have c12:Chg [] W1 W2:=by rw [jB];exact (Chg.refl [] W1).alloc _
 have kG:KB W2 w.heap.size x v:=KB.stay (by rw [jG];exact Blk.new w _ _) c12
 have kJ:XB W2 W1.heap.size zRs zV:=by rw [jB];exact Blk.new W1 _ _
 have e1:W1.heap.size = w.heap.size+1:=by rw [jG];exact af _ _
 have e2:W2.heap.size = w.heap.size+2:=by rw [jB,af];omega
 obtain ⟨b3,jS⟩:∃y,y = w.heap.size:=⟨_,rfl⟩
 obtain ⟨b4,kQ⟩:∃y,y = W1.heap.size:=⟨_,rfl⟩
 rw [← jS] at kG
 rw [← kQ] at kJ
 have HI:=ah (fun W (hc:Chg [] W2 W)=>h.stay ((c01.stay c12).stay hc))
 have kY:=ah (fun W (hc:Chg [] W2 W)=>(KB.stay kG hc:KB W b3 x v))
 have kD:=ah (fun W (hc:Chg [] W2 W)=>(XB.stay kJ hc:XB W b4 zRs zV))
 have jJ:=ah (c01.stay c12)
 have kW:=ah jG
 have jP:=ah jB
 have HB:=ah (show b3 = w.heap.size∧b4 = w.heap.size+1∧W2.heap.size = w.heap.size+2 by omega)
 have jY:=ah jS
 have jW:=ah kQ
 have jK:=ah jF
 have mO:=ah (fun k hk=>Nat.lt_of_lt_of_le (jF k hk) (c01.stay c12).size)
 have HK:=ah hk
 have pR:=ah hx
 have HV:=ah (fun W (hc:Chg [] W2 W)=>RE.stay hvb ((c01.stay c12).stay hc))
 have CG:=ah hv
 skip
 obtain ⟨RR,kB⟩:∃R,R = doA M x:=⟨_,rfl⟩
 rw [← kB]
 have jC:=ah kB
 clear h jF hx hv c01 c12 kG kJ e1 e2 jS kQ jG jB kB hvb hk
 go_enter Tryz.func37,Tryz.ntmps37
 go_upto_region 1 with (first|refine ax rfl _ rfl rfl ?_;try rw [← kW.out]|refine bn rfl rfl ?_;try rw [← jP.out])
 try rw [← jY.out,← jW.out]
 obtain ⟨r0,r1,-,-,-,-,-,-,-,-,-,-,rl,-⟩:=KB.cells (kY.out W2 (Chg.refl _ _))
 rw [HK.out] at r0
 have hR:RR = iq M:=by rw [jC.out];unfold doA bj;rw [if_neg (by rw [HK.out];decide),if_pos HK.out]
 have HR:=ah hR
 clear hR
 go_upto_region 4 with (fail)
 clear r0 r1 rl
 go_loopw [5] (fun iv wr=>wr = W2∧∃t:Nat,1≤t∧t≤9∧iv = .int .i64 t∧Hid (∀j:Nat,1≤j→j < t→M.pr j≠none)) (fun iv _=>9 - (intOf iv).toNat)
 case atStart=>exact ⟨rfl,1,by omega,by omega,rfl,ah (fun j h1 h2=>by omega)⟩
 case round =>
  obtain ⟨rfl,t,ht1,ht9,rfl,jZ⟩:=hrel
  have mI:=ah jZ.out
  clear jZ
  by_cases h8:t≤8
  ·have dl:decide ((t:Int)≤8) = true:=ae (by omega)
   have dl':decide (t≤8) = true:=ae h8
   have i0:(0:Int)≤(t:Int):=by omega
   have i1:(t:Int) < 9:=by omega
   have mS:IntKind.i64.wrap ((t:Int)+1) = (t:Int)+1:=by rw [IntKind.wrap_i64];omega
   have qs:=WIn.sp_at (HI.out wr (Chg.refl _ _)) (show t < 9 by omega)
   have ml:=Blk.lt (HI.out wr (Chg.refl _ _)).blk
   have HT:=ah (show 1≤t∧t≤8 from ⟨ht1,h8⟩)
   clear ht1 ht9 h8
   cases hp:M.pr (t:Int) with
   | some p =>
    rw [hp] at qs
    have HP:=ah hp
    clear hp
    go_wp2_with fail
    go_roundw
    case rel=>exact ⟨trivial,t+1,by omega,by have:=HT.out;omega,by go_num,ah (fun j h1 h2=>by
     by_cases e:j = t
     ·rw [e,HP.out];exact Option.some_ne_none _
     ·exact mI.out j h1 (by omega))⟩
    case measure=>have:=HT.out;simp [intOf];omega
   | none =>
    rw [hp] at qs
    obtain rfl:RR = (⟨0,t,[]⟩,some { M with pr:=upd M.pr t (some jf) }):=by
     rw [HR.out];unfold iq
     rw [iL HT.out.1 HT.out.2 mI.out hp]
     rfl
    have hwu:IntKind.u64.wrap (t:Int) = (t:Int):=by rw [IntKind.wrap_u64];have:=HT.out;omega
    have EV:=ah (br_v t)
    clear hp
    go_upto_region 7 with (fail)
    clear qs ml
    go_upto_region 8 with (first|refine qy (k:=.i64) rfl rfl ?_;intro Wm hm uM oN;have HM:=ah hm;have qN:=ah uM;have sG:=ah oN;clear hm uM oN|refine xi (b:=wr.heap.size) rfl _ rfl rfl ?_;intro Wb hb xA lW;have Ch:=ah hb;have rP:=ah (qN.out.stay xA);have nP:=ah (HM.out.stay xA);have qP:=ah lW;clear hb xA lW;have qs:=WIn.sp_at (HI.out Wb rP.out) (show t < 9 by have:=HT.out;omega);have ml:=Blk.lt (HI.out Wb rP.out).blk;have vN:=Blk.frozen (HI.out Wb rP.out).blk (94+t))
    have mL:=ah (WIn.spawn (HI.out wr (Chg.refl _ _)) mO.out HT.out rP.out Ch.out nP.out (by have:=sG.out;omega) (Nat.le_refl _))
    have kE:Chg [m] wr (Wb.setCell ⟨m,94+t,none⟩ (.pointer (some ⟨Wm.heap.size,0,none⟩))):=(rP.out.up [m]).setCell (p:=⟨m,94+t,none⟩) (.inl (by simp)) _
    have DL:XB (Wb.setCell ⟨m,94+t,none⟩ (.pointer (some ⟨Wm.heap.size,0,none⟩))) b4 zRs zV:=Blk.chg (kD.out wr (Chg.refl _ _)) kE (by have:=jK.out m (.inl rfl);have:=HB.out;simp;omega)
    have HZ9:=ah (show Wb.heap.size≤(Wb.setCell ⟨m,94+t,none⟩ (.pointer (some ⟨Wm.heap.size,0,none⟩))).heap.size from Nat.le_of_eq (qq _ _ _).symm)
    generalize Wb.setCell ⟨m,94+t,none⟩ (.pointer (some ⟨Wm.heap.size,0,none⟩)) = W9 at mL HZ9 kE DL ⊢
    have mB:=ah kE
    have HXB9:=ah DL
    clear kE DL qs ml vN
    go_wp2_with (first|refine bx rfl _ rfl EV.out ?_ ?_;(focus (simp [Act.eval,Act.put];done))|refine au (b:=b4) (x:=zRs) (v:=zV) (y:=⟨0,t,[]⟩) (u:=zV) rfl _ _ rfl rfl rfl rfl HXB9.out ?_;intro W6 h6 iZ)
    refine bodyPost_ret (v:=.agg (rsc ⟨0,t,[]⟩ zV)) (results_cell_row (p:=4) (ty:=40) rfl _ _ b4 40 _ (0,0) _ rfl h6 Tryz.underlying40 rfl ct) rfl ?_
    refine DoR.fin jK.out jJ.out (W:=wr) (w1:=W9) ?_ iZ (by have:=HB.out;omega) (by have:=HB.out;omega)
    refine ⟨none,0,0,rfl,RE.nil ucl 1 _ none 0,fun _ hk=>(bw hk).elim,CP.of mB.out (fun y hy=>.inl (by obtain rfl:=aa hy;exact .inl rfl)),_,vo,L,_,_,_,mL.out,Nat.le_refl _,fun y hy=>?_⟩
    have EJ:=mB.out.size
    have hzb:=Ch.out.lt
    have hzm:=nP.out.lt
    have hz9':Wb.heap.size≤W9.heap.size:=HZ9.out
    rcases hy with rfl | h | h | h | ⟨i,q,hi,hk⟩
    ·exact .inl ⟨.inl rfl,Nat.lt_of_lt_of_le (mO.out _ (.inl rfl)) EJ⟩
    ·exact .inl ⟨.inr (.inl h),Nat.lt_of_lt_of_le (mO.out _ (.inr (.inl h))) EJ⟩
    ·exact .inl ⟨.inr (.inr (.inl h)),Nat.lt_of_lt_of_le (mO.out _ (.inr (.inr (.inl h)))) EJ⟩
    ·exact .inl ⟨.inr (.inr (.inr (.inl h))),Nat.lt_of_lt_of_le (mO.out _ (.inr (.inr (.inr (.inl h))))) EJ⟩
    ·have qG:upd M.pr t (some jf) i = some q:=hi
     unfold upd at qG
     by_cases e:i = t
     ·rw [show upN gb t Wm.heap.size i = Wm.heap.size from if_pos e,show upN gm t wr.heap.size i = wr.heap.size from if_pos e] at hk
      have:=sG.out
      exact .inr ⟨by omega,by omega⟩
     ·rw [if_neg (by omega)] at qG
      rw [show upN gb t Wm.heap.size i = gb i from if_neg e,show upN gm t wr.heap.size i = gm i from if_neg e] at hk
      have:=mO.out y (.inr (.inr (.inr (.inr ⟨i,q,qG,hk⟩))))
      exact .inl ⟨.inr (.inr (.inr (.inr ⟨i,q,qG,hk⟩))),by omega⟩
  ·obtain rfl:t = 9:=by omega
   obtain rfl:RR = (aq 9,none):=by
    rw [HR.out];unfold iq
    rw [iM mI.out]
   have dl:decide (((9:Nat):Int)≤8) = false:=by decide
   clear h8 ht1 ht9
   go_wp2_with fail
   refine (dd 9 _).mono ?_
   rintro e W5 ⟨rfl,U⟩
   have jL:=ah U
   clear U
   go_wp2_with (first|refine au (b:=b4) (x:=zRs) (v:=zV) (y:=aq 9) (u:=zV) rfl _ _ rfl rfl rfl rfl (kD.out W5 jL.out) ?_;intro W6 h6 iZ)
   refine bodyPost_ret (v:=.agg (rsc (aq 9) zV)) (results_cell_row (p:=4) (ty:=40) rfl _ _ b4 40 _ (0,0) _ rfl h6 Tryz.underlying40 rfl ct) rfl ?_
   exact DoR.fin jK.out jJ.out (DoR.told (HI.out wr (Chg.refl _ _)) mO.out jL.out) iZ (by have:=HB.out;omega) (by have:=HB.out;omega)
theorem aA {w:World} {m:Nat} {M:Mo} {sp:Nat→Option Nat} {vo ve:Value} {L:List Ob} {E:List Nat} {gb gm:Nat→Nat} {gs:Nat→Sq} (h:WIn w m M sp vo ve L E gb gm gs) (jF:∀k,FW' M m vo ve L gb gm k→k < w.heap.size)
  {x:Cl} (hx:x.Ok) (nS:MoOk M) (hL:L.length≤500000) (hw:ci M.c x = false) (v:Value) (hv:v.oneCell' = true) (hvb:RB w v x.l) (hdj:x.l≠[]→∀k∈own v,¬ FW' M m vo ve L gb gm k) :
  Calls Tryz.prog 37 #[.pointer (some ⟨m,0,none⟩),.agg (clc x v)] w fun e w'=>DoR w w' m M vo ve L E gb gm (doA M x) e:=by
 by_cases h1:x.k = 1
 ·exact do1_any h jF hx h1 v hv hvb
 by_cases h2:x.k = 10∨x.k = 19∨x.k = 20∨x.k = 21
 ·exact do10_any h jF hx h2 v hv hvb
 by_cases h3:x.k = 11∨x.k = 12∨x.k = 13
 ·exact do11_any h jF hx hL h3 hw v hv hvb hdj
 ·exact do2_any h jF hx nS (by omega) hw v hv hvb
end Go.Proofs.YtfoleblcaloeoaaGreatDoor
