/- Texts merged for the claim. -/
import Derived.Test.YtfoleblcaloeoaaGreatDoorZbc
set_option maxHeartbeats 40000000
set_option maxRecDepth 20000
namespace Go.Proofs.YtfoleblcaloeoaaGreatDoor
open Go Go.RowKit
theorem jr {S:World→Prop} {Q:Exit→Act→World→Prop} {o:Oper} {rest:List Oper} {ks:List Nat} {gs:List (Option (Nat × Bool))} {a:Act} {w:World} {c:Cf} {bp bo be:Nat} (parts:Array (Nat × Operand)) (ho:o.op = .build 62 parts)
  {l:List (Nat × Value)} (hb:BM l c bp bo be) (hl:(parts.map fun (i,x)=>(i,a.eval x)).toList = l) (h:wpG Tryz.prog S Q rest ks gs (a.put o.dst (.agg (mgc c bp bo be))) w):wpG Tryz.prog S Q (o :: rest) (0 :: ks) (none :: gs) a w :=
 ai (fun K I=>⟨_,fun w'=>by
  unfold execOp
  simp only [ho,Sem.run_bind,run_build w' 62 _ (mgc c bp bo be) (by rw [hl];exact hb.h),Sem.run_pure,Result.andThen_ok],I _ _ h⟩)
theorem nv {o:Oper} {a:Act} {w:World} {K:Act→World→Prop} {Q:Exit→Act→World→Prop} {cs:Array Value} (z:Operand) (ho:o.op = .box 62 z) (hx:a.eval z = .agg cs)
  (h:K (a.put o.dst (.pointer (some ⟨w.heap.size,0,none⟩))) (w.alloc (.cells cs 62))):o.wp Tryz.prog a w K Q:=by
 unfold Oper.wp execOp
 simp only [ho,hx,Sem.run_bind,Instr.box,newVar,newRow,run_newObj_alloc,Sem.run_pure,Result.andThen_ok,Value.cells]
 exact h
structure Mc0 (w W:World) (m bp bo be:Nat) (M:Mo) (fe:Int→Option Value):Prop where
 chg:Chg [] w W
 blk:Blk W m 62 (mgc M.c bp bo be)
 mp:MapB W bp .i64 fun _=>none
 mo:MapB W bo .u64 fun _=>none
 me:MapB W be .u64 fe
 g:w.heap.size≤m∧w.heap.size≤bp∧w.heap.size≤bo∧w.heap.size≤be
 ne:bp≠bo∧bp≠be∧bo≠be
structure Mc (w W:World) (m bp bo be r:Nat) (M:Mo) (fe:Int→Option Value) (lp lo:Int→Bool) (gq:Int→Nat) (GQ:Int→Nat→Prop) (ov:Int→Value):Prop where
 chg:Chg [] w W
 blk:Blk W m 62 (mgc M.c bp bo be)
 mp:MapB W bp .i64 fun z=>if lp z then none else (M.pr z).map fun _=>.pointer (some ⟨gq z,0,none⟩)
 mo:MapB W bo .u64 fun z=>if lo z then none else (M.ob z).map fun _=>ov z
 me:MapB W be .u64 fe
 pr:∀z p,lp z = false→M.pr z = some p→PMem W (gq z) p (GQ z)
 pg:∀z p,lp z = false→M.pr z = some p→∀k,GQ z k→w.heap.size≤k∧k≠m∧k≠bp∧k≠bo∧k≠be∧k≠r
 pa:∀z z' p p',lp z = false→lp z' = false→M.pr z = some p→M.pr z' = some p'→z≠z'→∀k,GQ z k→¬ GQ z' k
 ob:∀z B,lo z = false→M.ob z = some B→SB W (ov z) B
 og:∀z B,lo z = false→M.ob z = some B→∀k∈own (ov z),w.heap.size≤k∧k≠m∧k≠bp∧k≠bo∧k≠be∧k≠r∧∀z' p,lp z' = false→M.pr z' = some p→¬ GQ z' k
 oa:∀z z' B B',lo z = false→lo z' = false→M.ob z = some B→M.ob z' = some B'→z≠z'→∀k∈own (ov z),k∉own (ov z')
 g:w.heap.size≤m∧w.heap.size≤bp∧w.heap.size≤bo∧w.heap.size≤be
 ne:bp≠bo∧bp≠be∧bo≠be
 nr:r≠m∧r≠bp∧r≠bo∧r≠be
 lr:w.heap.size≤r∧r < W.heap.size
theorem PMem.lt {w:World} {b:Nat} {p:Pr} {F:Nat→Prop} (h:PMem w b p F):∀k,F k→k < w.heap.size:=by
 obtain ⟨d,FA,bp,bo,fp,fo,gp,h1,h2,h3⟩:=h
 exact h3
theorem PMem.chg {w W:World} {b:Nat} {p:Pr} {F:Nat→Prop} {G:List Nat} (h:PMem w b p F) (hc:Chg G w W) (hg:∀k∈G,¬ F k):PMem W b p F :=
 h.cp (G:=fun k=>k∈G) (CP.of hc (fun k hk=>.inl hk)) (fun k hk h2=>hg k h2 hk)
theorem Mc0.begin {w W W1:World} {m bp bo be:Nat} {M:Mo} {fe:Int→Option Value} (h:Mc0 w W m bp bo be M fe) (hc:Chg [] W W1) (hs:W1.heap.size = W.heap.size+1) {lp lo:Int→Bool} (hl:∀z,lp z = (M.pr z).isSome) (tG:∀z,lo z = (M.ob z).isSome) :
  Mc w W1 m bp bo be W.heap.size M fe lp lo (fun _=>0) (fun _ _=>False) (fun _=>.slice none 0 0):=by
 have l1:=h.blk.lt
 have l2:=h.mp.lt
 have l3:=h.mo.lt
 have l4:=h.me.lt
 have l5:=h.chg.size
 have vp:∀z p,lp z = false→M.pr z = some p→False:=fun z p h1 h2=>by rw [hl z,h2] at h1;cases h1
 have vo:∀z B,lo z = false→M.ob z = some B→False:=fun z B h1 h2=>by rw [tG z,h2] at h1;cases h1
 have e1:(fun z=>if lp z then none else (M.pr z).map fun _=>Value.pointer (some ⟨0,0,none⟩)) = fun _=>none:=by
  funext z
  rw [hl z]
  cases M.pr z <;> rfl
 have e2:(fun z=>if lo z then none else (M.ob z).map fun _=>Value.slice none 0 0) = fun _=>none:=by
  funext z
  rw [tG z]
  cases M.ob z <;> rfl
 refine ⟨h.chg.stay hc,h.blk.chg hc ab,by rw [e1];exact h.mp.stay hc,by rw [e2];exact h.mo.stay hc,h.me.stay hc,fun z p h1 h2=>(vp z p h1 h2).elim,fun z p h1 h2=>(vp z p h1 h2).elim,fun z z' p p' h1 h2 h3=>(vp z p h1 h3).elim,fun z B h1 h2=>(vo z B h1 h2).elim,fun z B h1 h2=>(vo z B h1 h2).elim,fun z z' p p' h1 h2 h3=>(vo z p h1 h3).elim,h.g,h.ne,by omega,by omega⟩
theorem Mc.next {w W W1:World} {m bp bo be r:Nat} {M:Mo} {fe:Int→Option Value} {lp lo:Int→Bool} {gq:Int→Nat} {GQ:Int→Nat→Prop} {ov:Int→Value} (h:Mc w W m bp bo be r M fe lp lo gq GQ ov) (hc:Chg [r] W W1):Mc w W1 m bp bo be r M fe lp lo gq GQ ov:=by
 have hs:=hc.size
 have hnr:=h.nr
 have hlr:=h.lr
 have pD:∀x,x≠r→x∉[r]:=fun x hx hm=>hx (aa hm)
 exact { h with chg:=h.chg.trans hc (fun x hx=>.inr (by obtain rfl:=aa hx;exact hlr.1)),blk:=h.blk.chg hc (pD _ (by omega)),mp:=h.mp.chg hc (pD _ (by omega)),mo:=h.mo.chg hc (pD _ (by omega)),me:=h.me.chg hc (pD _ (by omega)),pr:=fun z p h1 h2=>(h.pr z p h1 h2).chg hc (fun k hk hg=>by obtain rfl:=aa hk;exact (h.pg z p h1 h2 _ hg).2.2.2.2.2 rfl),ob:=fun z B h1 h2=>(h.ob z B h1 h2).chg hc (fun k hk=>pD _ (h.og z B h1 h2 k hk).2.2.2.2.2.1),lr:=by omega }
theorem Mc.stay {w W W1:World} {m bp bo be r:Nat} {M:Mo} {fe:Int→Option Value} {lp lo:Int→Bool} {gq:Int→Nat} {GQ:Int→Nat→Prop} {ov:Int→Value} (h:Mc w W m bp bo be r M fe lp lo gq GQ ov) (hc:Chg [] W W1):Mc w W1 m bp bo be r M fe lp lo gq GQ ov:=h.next (hc.up [r])
theorem Mc.again {w W W1:World} {m bp bo be r:Nat} {M:Mo} {fe:Int→Option Value} {lp lo:Int→Bool} {gq:Int→Nat} {GQ:Int→Nat→Prop} {ov:Int→Value} (h:Mc w W m bp bo be r M fe lp lo gq GQ ov) (hc:Chg [] W W1) (hs:W1.heap.size = W.heap.size+1):Mc w W1 m bp bo be W.heap.size M fe lp lo gq GQ ov:=by
 have l1:=h.blk.lt
 have l2:=h.mp.lt
 have l3:=h.mo.lt
 have l4:=h.me.lt
 have l5:=h.chg.size
 have h':=h.stay hc
 refine { h' with pg:=fun z p h1 h2 k hk=>?_,og:=fun z B h1 h2 k hk=>?_,nr:=by omega,lr:=by omega }
 ·have:=(h.pr z p h1 h2).lt k hk
  obtain ⟨k1,k2,k3,k4,k5,k6⟩:=h.pg z p h1 h2 k hk
  exact ⟨k1,k2,k3,k4,k5,by omega⟩
 ·have:=(h.ob z B h1 h2).own_lt k hk
  obtain ⟨k1,k2,k3,k4,k5,k6,k7⟩:=h.og z B h1 h2 k hk
  exact ⟨k1,k2,k3,k4,k5,by omega,k7⟩
theorem fj {left:Int→Bool} {y z:Int} (h1:(left y && !(y == z)) = false) (h2:y≠z):left y = false:=by
 cases hl:left y with
 | false=>rfl
 | true=>rw [hl,beq_false_of_ne h2] at h1;cases h1
theorem Mc.stepP {w W W1:World} {m bp bo be r g:Nat} {M:Mo} {fe:Int→Option Value} {lp lo:Int→Bool} {gq:Int→Nat} {GQ:Int→Nat→Prop} {ov:Int→Value} (h:Mc w W m bp bo be r M fe lp lo gq GQ ov) {z:Int} {p:Pr} {F:Nat→Prop} (hp:M.pr z = some p)
  (hc:Chg [bp] W W1) (hP:PMem W1 g p F) (hF:∀k,F k→W.heap.size≤k) (hm:MapB W1 bp .i64 fun y=>if y = z then some (.pointer (some ⟨g,0,none⟩)) else if lp y then none else (M.pr y).map fun _=>.pointer (some ⟨gq y,0,none⟩)) :
  Mc w W1 m bp bo be r M fe (fun y=>lp y && !(y == z)) lo (upd gq z g) (upd GQ z F) ov:=by
 have l1:=h.blk.lt
 have l2:=h.mp.lt
 have l3:=h.mo.lt
 have l4:=h.me.lt
 have l5:=h.chg.size
 have hnr:=h.nr
 have hlr:=h.lr
 have jO:=h.ne
 have hg:=h.g
 have hs:=hc.size
 have rD:=Blk.ne_map h.blk h.mp
 have pD:∀x,x≠bp→x∉[bp]:=fun x hx hm=>hx (aa hm)
 refine { h with chg:=h.chg.trans hc (fun x hx=>.inr (by obtain rfl:=aa hx;exact hg.2.1)),blk:=h.blk.chg hc (pD _ rD),mp:=?_,mo:=h.mo.chg hc (pD _ (by omega)),me:=h.me.chg hc (pD _ (by omega)),pr:=fun y q h1 h2=>?_,pg:=fun y q h1 h2 k hk=>?_,pa:=fun y y' q q' h1 h2 h3 h4 h5 k hk kL=>?_,ob:=fun y B h1 h2=>(h.ob y B h1 h2).chg hc (fun k hk=>pD _ (h.og y B h1 h2 k hk).2.2.1),og:=fun y B h1 h2 k hk=>?_,lr:=by omega }
 ·have e:(fun y=>if y = z then some (Value.pointer (some ⟨g,0,none⟩)) else if lp y then none else (M.pr y).map fun _=>.pointer (some ⟨gq y,0,none⟩)) = fun y=>if (lp y && !(y == z)) = true then none else (M.pr y).map fun _=>.pointer (some ⟨upd gq z g y,0,none⟩):=by
   funext y
   by_cases h1:y = z
   ·subst h1
    simp [upd,hp]
   ·simp [upd,h1]
  rw [← e]
  exact hm
 ·by_cases e:y = z
  ·subst e
   obtain rfl:=Option.some.inj (hp.symm.trans h2)
   rw [di,di]
   exact hP
  ·rw [db _ _ e,db _ _ e]
   exact (h.pr y q (fj h1 e) h2).chg hc (fun k hk hg2=>by obtain rfl:=aa hk;exact (h.pg y q (fj h1 e) h2 _ hg2).2.2.1 rfl)
 ·by_cases e:y = z
  ·subst e
   rw [di] at hk
   have:=hF k hk
   omega
  ·rw [db _ _ e] at hk
   exact h.pg y q (fj h1 e) h2 k hk
 ·by_cases e:y = z
  ·have e':y'≠z:=fun e'=>h5 (e.trans e'.symm)
   rw [e,di] at hk
   rw [db _ _ e'] at kL
   have:=hF k hk
   have:=(h.pr y' q' (fj h2 e') h4).lt k kL
   omega
  ·rw [db _ _ e] at hk
   by_cases e':y' = z
   ·rw [e',di] at kL
    have:=hF k kL
    have:=(h.pr y q (fj h1 e) h3).lt k hk
    omega
   ·rw [db _ _ e'] at kL
    exact h.pa y y' q q' (fj h1 e) (fj h2 e') h3 h4 h5 k hk kL
 ·obtain ⟨k1,k2,k3,k4,k5,k6,k7⟩:=h.og y B h1 h2 k hk
  refine ⟨k1,k2,k3,k4,k5,k6,fun z' q h3 h4 Er=>?_⟩
  by_cases e:z' = z
  ·rw [e,di] at Er
   have:=hF k Er
   have:=(h.ob y B h1 h2).own_lt k hk
   omega
  ·rw [db _ _ e] at Er
   exact k7 z' q (fj h3 e) h4 Er
theorem Mc.stepO {w W W1:World} {m bp bo be r:Nat} {M:Mo} {fe:Int→Option Value} {lp lo:Int→Bool} {gq:Int→Nat} {GQ:Int→Nat→Prop} {ov:Int→Value} (h:Mc w W m bp bo be r M fe lp lo gq GQ ov) {z:Int} {B:List Nat} {v:Value} (hB:M.ob z = some B)
  (hc:Chg [bo] W W1) (hS:SB W1 v B) (hF:∀k∈own v,W.heap.size≤k) (hm:MapB W1 bo .u64 fun y=>if y = z then some v else if lo y then none else (M.ob y).map fun _=>ov y) :
  Mc w W1 m bp bo be r M fe lp (fun y=>lo y && !(y == z)) gq GQ (upd ov z v):=by
 have l1:=h.blk.lt
 have l2:=h.mp.lt
 have l3:=h.mo.lt
 have l4:=h.me.lt
 have l5:=h.chg.size
 have hnr:=h.nr
 have hlr:=h.lr
 have jO:=h.ne
 have hg:=h.g
 have hs:=hc.size
 have rD:=Blk.ne_map h.blk h.mo
 have pD:∀x,x≠bo→x∉[bo]:=fun x hx hm=>hx (aa hm)
 refine { h with chg:=h.chg.trans hc (fun x hx=>.inr (by obtain rfl:=aa hx;exact hg.2.2.1)),blk:=h.blk.chg hc (pD _ rD),mo:=?_,mp:=h.mp.chg hc (pD _ (by omega)),me:=h.me.chg hc (pD _ (by omega)),pr:=fun y q h1 h2=>(h.pr y q h1 h2).chg hc (fun k hk hg2=>by obtain rfl:=aa hk;exact (h.pg y q h1 h2 _ hg2).2.2.2.1 rfl),ob:=fun y C h1 h2=>?_,og:=fun y C h1 h2 k hk=>?_,oa:=fun y y' q q' h1 h2 h3 h4 h5 k hk kL=>?_,lr:=by omega }
 ·have e:(fun y=>if y = z then some v else if lo y then none else (M.ob y).map fun _=>ov y) = fun y=>if (lo y && !(y == z)) = true then none else (M.ob y).map fun _=>upd ov z v y:=by
   funext y
   by_cases h1:y = z
   ·subst h1
    simp [upd,hB]
   ·simp [upd,h1]
  rw [← e]
  exact hm
 ·by_cases e:y = z
  ·subst e
   obtain rfl:=Option.some.inj (hB.symm.trans h2)
   rw [di]
   exact hS
  ·rw [db _ _ e]
   exact (h.ob y C (fj h1 e) h2).chg hc (fun k hk=>pD _ (h.og y C (fj h1 e) h2 k hk).2.2.2.1)
 ·by_cases e:y = z
  ·subst e
   rw [di] at hk
   have:=hF k hk
   refine ⟨by omega,by omega,by omega,by omega,by omega,by omega,fun z' q h3 h4 Er=>?_⟩
   have:=(h.pr z' q h3 h4).lt k Er
   omega
  ·rw [db _ _ e] at hk
   exact h.og y C (fj h1 e) h2 k hk
 ·by_cases e:y = z
  ·have e':y'≠z:=fun e'=>h5 (e.trans e'.symm)
   rw [e,di] at hk
   rw [db _ _ e'] at kL
   have:=hF k hk
   have:=(h.ob y' q' (fj h2 e') h4).own_lt k kL
   omega
  ·rw [db _ _ e] at hk
   by_cases e':y' = z
   ·rw [e',di] at kL
    have:=hF k kL
    have:=(h.ob y q (fj h1 e) h3).own_lt k hk
    omega
   ·rw [db _ _ e'] at kL
    exact h.oa y y' q q' (fj h1 e) (fj h2 e') h3 h4 h5 k hk kL
theorem Mc.end_ {w W w0:World} {m bp bo be r m0 bp0 bo0 be0:Nat} {M:Mo} {fp0 fo0 fe:Int→Option Value} {gb0:Int→Nat} {GF0:Int→Nat→Prop} {ov0:Int→Value} {lp lo:Int→Bool} {gq:Int→Nat} {GQ:Int→Nat→Prop} {ov:Int→Value} (h:Mc w W m bp bo be r M fe lp lo gq GQ ov) (hI:MIn w0 m0 M bp0 bo0 be0 fp0 fo0 fe gb0 GF0 ov0) (hp:∀z,lp z = false) (ho:∀z,lo z = false) :
  ∃O,MMem W m M O∧∀k,O k→w.heap.size≤k:=by
 have wN:MapB W bp .i64 fun z=>(M.pr z).map fun _=>.pointer (some ⟨gq z,0,none⟩):=by
  have:=h.mp
  simpa only [hp,Bool.false_eq_true,if_false] using this
 have hmo:MapB W bo .u64 fun z=>(M.ob z).map fun _=>ov z:=by
  have:=h.mo
  simpa only [ho,Bool.false_eq_true,if_false] using this
 have hg:=h.g
 refine ⟨FMo M m bp bo be GQ ov,⟨bp,bo,be,_,_,fe,gq,GQ,ov,⟨h.blk,wN,hmo,h.me,fun _=>rfl,fun n p hn=>h.pr n p (hp n) hn,fun n n' p p' h1 h2 h3=>h.pa n n' p p' (hp n) (hp n') h1 h2 h3,hI.rng,fun _=>rfl,fun z B hB=>⟨h.ob z B (ho z) hB,(hI.ob z B hB).2⟩,fun z z' B B' h1 h2 h3=>h.oa z z' B B' (ho z) (ho z') h1 h2 h3,hI.he,h.ne.1,h.ne.2.1,h.ne.2.2,fun n p hn k hk=>?_⟩,fun k hk=>hk,?_⟩,?_⟩
 ·obtain ⟨k1,k2,k3,k4,k5,k6⟩:=h.pg n p (hp n) hn k hk
  exact ⟨k2,k3,k4,k5,fun z B hB pJ=>(h.og z B (ho z) hB k pJ).2.2.2.2.2.2 n p (hp n) hn hk⟩
 ·rintro k (rfl | rfl | rfl | rfl | ⟨n,p,hn,hk⟩ | ⟨z,B,hB,hk⟩)
  ·exact h.blk.lt
  ·exact h.mp.lt
  ·exact h.mo.lt
  ·exact h.me.lt
  ·exact (h.pr n p (hp n) hn).lt k hk
  ·exact (h.ob z B (ho z) hB).own_lt k hk
 ·rintro k (rfl | rfl | rfl | rfl | ⟨n,p,hn,hk⟩ | ⟨z,B,hB,hk⟩)
  ·exact hg.1
  ·exact hg.2.1
  ·exact hg.2.2.1
  ·exact hg.2.2.2
  ·exact (h.pg n p (hp n) hn k hk).1
  ·exact (h.og z B (ho z) hB k hk).1
theorem Copy_any {w:World} {m0:Nat} {M:Mo} {O:Nat→Prop} (h:MMem w m0 M O) :
  Calls Tryz.prog 15 #[.pointer (some ⟨m0,0,none⟩)] w fun e W'=>(∃m O',e = .returned (.pointer (some ⟨m,0,none⟩))∧MMem W' m M O'∧∀k,O' k→w.heap.size≤k)∧Chg [] w W':=by
 obtain ⟨bp0,bo0,be0,fp,fo,fe,gb,GF,ov0,hI,-,-⟩:=h
 have HI:=ah (fun W (hc:Chg [] w W)=>hI.cp (CP.of0 (F:=fun _=>False) hc) (fun _ _ h=>h))
 have l0:=hI.blk.lt
 have HN:=ah (qi hI.blk)
 have qI:∀(t:TypeId) (W:World),(Instr.makeMap t none).run Tryz.prog W = .ok (.map (some W.heap.size)) (W.alloc (.map #[] 0)):=fun t W=>run_makeMap t W
 clear hI
 go_enter Tryz.func15,Tryz.ntmps15
 go_wp2_with fail
 refine HN.out.mono ?_
 rintro e W9 ⟨rfl,rfl⟩
 go_upto_region 3 with (fail)
 go_cut [3] from 10 to 22 (fun z3 W=>∃m bp bo be,z3 = .pointer (some ⟨m,0,none⟩)∧Hid (Mc0 w W m bp bo be M fe))
 case first =>
  refine kw [0,0,0,5,6,6,0,0,0,5,6,0,6,0] [none,none,none,none,none,none,none,none,none,none,none,none,none,none] [[0,1,2,3,4,5,6,7,8,9,10,11,12,13],[0,1,2,3,4,6,7,8,9,10,5,11,12,13],[0,1,2,3,5,4,6,7,8,9,10,11,12,13],[0,1,2,3,5,6,7,8,9,10,4,11,12,13],[0,1,2,3,6,7,8,9,10,4,5,11,12,13],[0,1,2,3,6,7,8,9,10,5,4,11,12,13]] (fun W=>Chg [] w W) (by kernel_rfl) (by kernel_rfl) (by kernel_rfl) (by kernel_rfl) (fun L9 nQ=>?_)
  have hS:Chg [] w w.drew:=(Chg.refl [] w).drew
  generalize w.drew = W0 at hS ⊢
  simp only [List.mem_cons,List.mem_nil_iff,or_false] at nQ
  rcases nQ with rfl | rfl | rfl | rfl | rfl | rfl
  ·have z0:=hS.size
   simp only [dt,List.filterMap_cons,List.filterMap_nil,List.getElem?_cons_succ,List.getElem?_cons_zero]
   go_wp2_with (first|refine al 26 _ rfl rfl (fun w' J=>dp (HI.out w' J).blk) hS ?_|refine al 60 _ rfl rfl (fun w' J=>ca Tryz.underlying60 (cc (HI.out w' J).blk).2.2.1) hS ?_|refine av fun K I=>?_|refine ai fun K I=>?_;go_simp;refine I _ _ ?_;clear I K|refine ao fun K I=>?_;go_simp|refine aj ?_)
   (refine aw hS fun K I=>?_)
   go_simp
   obtain ⟨W1,jG⟩:∃W,W = W0.alloc (.map #[] 0):=⟨_,rfl⟩
   have jH:Chg [] W0 W1:=by rw [jG];exact (Chg.refl [] _).alloc _
   have hP:MapB W1 W0.heap.size .i64 (fun _=>none):=by rw [jG];exact MapB.new _ _
   obtain ⟨bP,nG⟩:∃b,b = W0.heap.size:=⟨_,rfl⟩
   have gP:W0.heap.size≤bP:=Nat.le_of_eq nG.symm
   try rw [← jG]
   rw [← nG] at hP ⊢
   have lP:=hP.lt
   clear jG nG
   have z1:=jH.size
   replace hS:Chg [] w W1:=hS.stay jH
   refine I _ _ hS ?_
   clear I K
   clear jH
   go_wp2_with (first|refine al 26 _ rfl rfl (fun w' J=>dp (HI.out w' J).blk) hS ?_|refine al 60 _ rfl rfl (fun w' J=>ca Tryz.underlying60 (cc (HI.out w' J).blk).2.2.1) hS ?_|refine av fun K I=>?_|refine ai fun K I=>?_;go_simp;refine I _ _ ?_;clear I K|refine ao fun K I=>?_;go_simp|refine aj ?_)
   (refine aw hS fun K I=>?_)
   go_simp
   obtain ⟨W2,jB⟩:∃W,W = W1.alloc (.map #[] 0):=⟨_,rfl⟩
   have jA:Chg [] W1 W2:=by rw [jB];exact (Chg.refl [] _).alloc _
   have hB:MapB W2 W1.heap.size .u64 (fun _=>none):=by rw [jB];exact MapB.new _ _
   obtain ⟨bB,qB⟩:∃b,b = W1.heap.size:=⟨_,rfl⟩
   have gB:W1.heap.size≤bB:=Nat.le_of_eq qB.symm
   try rw [← jB]
   rw [← qB] at hB ⊢
   have lB:=hB.lt
   clear jB qB
   have z2:=jA.size
   replace hS:Chg [] w W2:=hS.stay jA
   refine I _ _ hS ?_
   clear I K
   replace hP:=hP.stay jA
   clear jA
   go_wp2_with (first|refine al 26 _ rfl rfl (fun w' J=>dp (HI.out w' J).blk) hS ?_|refine al 60 _ rfl rfl (fun w' J=>ca Tryz.underlying60 (cc (HI.out w' J).blk).2.2.1) hS ?_|refine av fun K I=>?_|refine ai fun K I=>?_;go_simp;refine I _ _ ?_;clear I K|refine ao fun K I=>?_;go_simp|refine aj ?_)
   (refine aw hS fun K I=>?_)
   go_simp
   refine (iz (HI.out W2 hS).me).mono ?_
   rintro e W3 ⟨bE,rfl,hE,jD,gE⟩
   have lE:=hE.lt
   have z3:=jD.size
   replace hS:Chg [] w W3:=hS.stay jD
   refine I _ _ hS ?_
   clear I K
   replace hP:=hP.stay jD
   replace hB:=hB.stay jD
   clear jD
   have oJ:=ah (se M.c bP bB bE)
   go_wp2_with (first|refine aw hS fun K I=>?_;refine nv _ rfl rfl ?_;refine I _ _ (hS.alloc _) ?_;clear I K|refine jr _ rfl oJ.out ?_ ?_;(focus (simp [Act.eval];done));go_simp|refine av fun K I=>?_|refine ai fun K I=>?_;go_simp;refine I _ _ ?_;clear I K|refine ao fun K I=>?_;go_simp|refine aj ?_)
   go_meet
   case rel =>
    have hn:Chg [] W3 (W3.alloc (.cells (mgc M.c bP bB bE) 62)):=(Chg.refl [] _).alloc _
    exact ⟨_,bP,bB,bE,rfl,ah (Mc0.mk (hS.stay hn) (Blk.new W3 _ _) (hP.stay hn) (hB.stay hn) (hE.stay hn) (by omega) (by omega))⟩
  ·have z0:=hS.size
   simp only [dt,List.filterMap_cons,List.filterMap_nil,List.getElem?_cons_succ,List.getElem?_cons_zero]
   go_wp2_with (first|refine al 26 _ rfl rfl (fun w' J=>dp (HI.out w' J).blk) hS ?_|refine al 60 _ rfl rfl (fun w' J=>ca Tryz.underlying60 (cc (HI.out w' J).blk).2.2.1) hS ?_|refine av fun K I=>?_|refine ai fun K I=>?_;go_simp;refine I _ _ ?_;clear I K|refine ao fun K I=>?_;go_simp|refine aj ?_)
   (refine aw hS fun K I=>?_)
   go_simp
   obtain ⟨W1,jG⟩:∃W,W = W0.alloc (.map #[] 0):=⟨_,rfl⟩
   have jH:Chg [] W0 W1:=by rw [jG];exact (Chg.refl [] _).alloc _
   have hP:MapB W1 W0.heap.size .i64 (fun _=>none):=by rw [jG];exact MapB.new _ _
   obtain ⟨bP,nG⟩:∃b,b = W0.heap.size:=⟨_,rfl⟩
   have gP:W0.heap.size≤bP:=Nat.le_of_eq nG.symm
   try rw [← jG]
   rw [← nG] at hP ⊢
   have lP:=hP.lt
   clear jG nG
   have z1:=jH.size
   replace hS:Chg [] w W1:=hS.stay jH
   refine I _ _ hS ?_
   clear I K
   clear jH
   go_wp2_with (first|refine al 26 _ rfl rfl (fun w' J=>dp (HI.out w' J).blk) hS ?_|refine al 60 _ rfl rfl (fun w' J=>ca Tryz.underlying60 (cc (HI.out w' J).blk).2.2.1) hS ?_|refine av fun K I=>?_|refine ai fun K I=>?_;go_simp;refine I _ _ ?_;clear I K|refine ao fun K I=>?_;go_simp|refine aj ?_)
   (refine aw hS fun K I=>?_)
   go_simp
   refine (iz (HI.out W1 hS).me).mono ?_
   rintro e W2 ⟨bE,rfl,hE,jA,gE⟩
   have lE:=hE.lt
   have z2:=jA.size
   replace hS:Chg [] w W2:=hS.stay jA
   refine I _ _ hS ?_
   clear I K
   replace hP:=hP.stay jA
   clear jA
   go_wp2_with (first|refine al 26 _ rfl rfl (fun w' J=>dp (HI.out w' J).blk) hS ?_|refine al 60 _ rfl rfl (fun w' J=>ca Tryz.underlying60 (cc (HI.out w' J).blk).2.2.1) hS ?_|refine av fun K I=>?_|refine ai fun K I=>?_;go_simp;refine I _ _ ?_;clear I K|refine ao fun K I=>?_;go_simp|refine aj ?_)
   (refine aw hS fun K I=>?_)
   go_simp
   obtain ⟨W3,mC⟩:∃W,W = W2.alloc (.map #[] 0):=⟨_,rfl⟩
   have jD:Chg [] W2 W3:=by rw [mC];exact (Chg.refl [] _).alloc _
   have hB:MapB W3 W2.heap.size .u64 (fun _=>none):=by rw [mC];exact MapB.new _ _
   obtain ⟨bB,qB⟩:∃b,b = W2.heap.size:=⟨_,rfl⟩
   have gB:W2.heap.size≤bB:=Nat.le_of_eq qB.symm
   try rw [← mC]
   rw [← qB] at hB ⊢
   have lB:=hB.lt
   clear mC qB
   have z3:=jD.size
   replace hS:Chg [] w W3:=hS.stay jD
   refine I _ _ hS ?_
   clear I K
   replace hP:=hP.stay jD
   replace hE:=hE.stay jD
   clear jD
   have oJ:=ah (se M.c bP bB bE)
   go_wp2_with (first|refine aw hS fun K I=>?_;refine nv _ rfl rfl ?_;refine I _ _ (hS.alloc _) ?_;clear I K|refine jr _ rfl oJ.out ?_ ?_;(focus (simp [Act.eval];done));go_simp|refine av fun K I=>?_|refine ai fun K I=>?_;go_simp;refine I _ _ ?_;clear I K|refine ao fun K I=>?_;go_simp|refine aj ?_)
   go_meet
   case rel =>
    have hn:Chg [] W3 (W3.alloc (.cells (mgc M.c bP bB bE) 62)):=(Chg.refl [] _).alloc _
    exact ⟨_,bP,bB,bE,rfl,ah (Mc0.mk (hS.stay hn) (Blk.new W3 _ _) (hP.stay hn) (hB.stay hn) (hE.stay hn) (by omega) (by omega))⟩
  ·have z0:=hS.size
   simp only [dt,List.filterMap_cons,List.filterMap_nil,List.getElem?_cons_succ,List.getElem?_cons_zero]
   go_wp2_with (first|refine al 26 _ rfl rfl (fun w' J=>dp (HI.out w' J).blk) hS ?_|refine al 60 _ rfl rfl (fun w' J=>ca Tryz.underlying60 (cc (HI.out w' J).blk).2.2.1) hS ?_|refine av fun K I=>?_|refine ai fun K I=>?_;go_simp;refine I _ _ ?_;clear I K|refine ao fun K I=>?_;go_simp|refine aj ?_)
   (refine aw hS fun K I=>?_)
   go_simp
   obtain ⟨W1,jG⟩:∃W,W = W0.alloc (.map #[] 0):=⟨_,rfl⟩
   have jH:Chg [] W0 W1:=by rw [jG];exact (Chg.refl [] _).alloc _
   have hB:MapB W1 W0.heap.size .u64 (fun _=>none):=by rw [jG];exact MapB.new _ _
   obtain ⟨bB,qB⟩:∃b,b = W0.heap.size:=⟨_,rfl⟩
   have gB:W0.heap.size≤bB:=Nat.le_of_eq qB.symm
   try rw [← jG]
   rw [← qB] at hB ⊢
   have lB:=hB.lt
   clear jG qB
   have z1:=jH.size
   replace hS:Chg [] w W1:=hS.stay jH
   refine I _ _ hS ?_
   clear I K
   clear jH
   go_wp2_with (first|refine al 26 _ rfl rfl (fun w' J=>dp (HI.out w' J).blk) hS ?_|refine al 60 _ rfl rfl (fun w' J=>ca Tryz.underlying60 (cc (HI.out w' J).blk).2.2.1) hS ?_|refine av fun K I=>?_|refine ai fun K I=>?_;go_simp;refine I _ _ ?_;clear I K|refine ao fun K I=>?_;go_simp|refine aj ?_)
   (refine aw hS fun K I=>?_)
   go_simp
   obtain ⟨W2,jB⟩:∃W,W = W1.alloc (.map #[] 0):=⟨_,rfl⟩
   have jA:Chg [] W1 W2:=by rw [jB];exact (Chg.refl [] _).alloc _
   have hP:MapB W2 W1.heap.size .i64 (fun _=>none):=by rw [jB];exact MapB.new _ _
   obtain ⟨bP,nG⟩:∃b,b = W1.heap.size:=⟨_,rfl⟩
   have gP:W1.heap.size≤bP:=Nat.le_of_eq nG.symm
   try rw [← jB]
   rw [← nG] at hP ⊢
   have lP:=hP.lt
   clear jB nG
   have z2:=jA.size
   replace hS:Chg [] w W2:=hS.stay jA
   refine I _ _ hS ?_
   clear I K
   replace hB:=hB.stay jA
   clear jA
   go_wp2_with (first|refine al 26 _ rfl rfl (fun w' J=>dp (HI.out w' J).blk) hS ?_|refine al 60 _ rfl rfl (fun w' J=>ca Tryz.underlying60 (cc (HI.out w' J).blk).2.2.1) hS ?_|refine av fun K I=>?_|refine ai fun K I=>?_;go_simp;refine I _ _ ?_;clear I K|refine ao fun K I=>?_;go_simp|refine aj ?_)
   (refine aw hS fun K I=>?_)
   go_simp
   refine (iz (HI.out W2 hS).me).mono ?_
   rintro e W3 ⟨bE,rfl,hE,jD,gE⟩
   have lE:=hE.lt
   have z3:=jD.size
   replace hS:Chg [] w W3:=hS.stay jD
   refine I _ _ hS ?_
   clear I K
   replace hB:=hB.stay jD
   replace hP:=hP.stay jD
   clear jD
   have oJ:=ah (se M.c bP bB bE)
   go_wp2_with (first|refine aw hS fun K I=>?_;refine nv _ rfl rfl ?_;refine I _ _ (hS.alloc _) ?_;clear I K|refine jr _ rfl oJ.out ?_ ?_;(focus (simp [Act.eval];done));go_simp|refine av fun K I=>?_|refine ai fun K I=>?_;go_simp;refine I _ _ ?_;clear I K|refine ao fun K I=>?_;go_simp|refine aj ?_)
   go_meet
   case rel =>
    have hn:Chg [] W3 (W3.alloc (.cells (mgc M.c bP bB bE) 62)):=(Chg.refl [] _).alloc _
    exact ⟨_,bP,bB,bE,rfl,ah (Mc0.mk (hS.stay hn) (Blk.new W3 _ _) (hP.stay hn) (hB.stay hn) (hE.stay hn) (by omega) (by omega))⟩
  ·have z0:=hS.size
   simp only [dt,List.filterMap_cons,List.filterMap_nil,List.getElem?_cons_succ,List.getElem?_cons_zero]
   go_wp2_with (first|refine al 26 _ rfl rfl (fun w' J=>dp (HI.out w' J).blk) hS ?_|refine al 60 _ rfl rfl (fun w' J=>ca Tryz.underlying60 (cc (HI.out w' J).blk).2.2.1) hS ?_|refine av fun K I=>?_|refine ai fun K I=>?_;go_simp;refine I _ _ ?_;clear I K|refine ao fun K I=>?_;go_simp|refine aj ?_)
   (refine aw hS fun K I=>?_)
   go_simp
   obtain ⟨W1,jG⟩:∃W,W = W0.alloc (.map #[] 0):=⟨_,rfl⟩
   have jH:Chg [] W0 W1:=by rw [jG];exact (Chg.refl [] _).alloc _
   have hB:MapB W1 W0.heap.size .u64 (fun _=>none):=by rw [jG];exact MapB.new _ _
   obtain ⟨bB,qB⟩:∃b,b = W0.heap.size:=⟨_,rfl⟩
   have gB:W0.heap.size≤bB:=Nat.le_of_eq qB.symm
   try rw [← jG]
   rw [← qB] at hB ⊢
   have lB:=hB.lt
   clear jG qB
   have z1:=jH.size
   replace hS:Chg [] w W1:=hS.stay jH
   refine I _ _ hS ?_
   clear I K
   clear jH
   go_wp2_with (first|refine al 26 _ rfl rfl (fun w' J=>dp (HI.out w' J).blk) hS ?_|refine al 60 _ rfl rfl (fun w' J=>ca Tryz.underlying60 (cc (HI.out w' J).blk).2.2.1) hS ?_|refine av fun K I=>?_|refine ai fun K I=>?_;go_simp;refine I _ _ ?_;clear I K|refine ao fun K I=>?_;go_simp|refine aj ?_)
   (refine aw hS fun K I=>?_)
   go_simp
   refine (iz (HI.out W1 hS).me).mono ?_
   rintro e W2 ⟨bE,rfl,hE,jA,gE⟩
   have lE:=hE.lt
   have z2:=jA.size
   replace hS:Chg [] w W2:=hS.stay jA
   refine I _ _ hS ?_
   clear I K
   replace hB:=hB.stay jA
   clear jA
   go_wp2_with (first|refine al 26 _ rfl rfl (fun w' J=>dp (HI.out w' J).blk) hS ?_|refine al 60 _ rfl rfl (fun w' J=>ca Tryz.underlying60 (cc (HI.out w' J).blk).2.2.1) hS ?_|refine av fun K I=>?_|refine ai fun K I=>?_;go_simp;refine I _ _ ?_;clear I K|refine ao fun K I=>?_;go_simp|refine aj ?_)
   (refine aw hS fun K I=>?_)
   go_simp
   obtain ⟨W3,mC⟩:∃W,W = W2.alloc (.map #[] 0):=⟨_,rfl⟩
   have jD:Chg [] W2 W3:=by rw [mC];exact (Chg.refl [] _).alloc _
   have hP:MapB W3 W2.heap.size .i64 (fun _=>none):=by rw [mC];exact MapB.new _ _
   obtain ⟨bP,nG⟩:∃b,b = W2.heap.size:=⟨_,rfl⟩
   have gP:W2.heap.size≤bP:=Nat.le_of_eq nG.symm
   try rw [← mC]
   rw [← nG] at hP ⊢
   have lP:=hP.lt
   clear mC nG
   have z3:=jD.size
   replace hS:Chg [] w W3:=hS.stay jD
   refine I _ _ hS ?_
   clear I K
   replace hB:=hB.stay jD
   replace hE:=hE.stay jD
   clear jD
   have oJ:=ah (se M.c bP bB bE)
   go_wp2_with (first|refine aw hS fun K I=>?_;refine nv _ rfl rfl ?_;refine I _ _ (hS.alloc _) ?_;clear I K|refine jr _ rfl oJ.out ?_ ?_;(focus (simp [Act.eval];done));go_simp|refine av fun K I=>?_|refine ai fun K I=>?_;go_simp;refine I _ _ ?_;clear I K|refine ao fun K I=>?_;go_simp|refine aj ?_)
   go_meet
   case rel =>
    have hn:Chg [] W3 (W3.alloc (.cells (mgc M.c bP bB bE) 62)):=(Chg.refl [] _).alloc _
    exact ⟨_,bP,bB,bE,rfl,ah (Mc0.mk (hS.stay hn) (Blk.new W3 _ _) (hP.stay hn) (hB.stay hn) (hE.stay hn) (by omega) (by omega))⟩
  ·have z0:=hS.size
   simp only [dt,List.filterMap_cons,List.filterMap_nil,List.getElem?_cons_succ,List.getElem?_cons_zero]
   go_wp2_with (first|refine al 26 _ rfl rfl (fun w' J=>dp (HI.out w' J).blk) hS ?_|refine al 60 _ rfl rfl (fun w' J=>ca Tryz.underlying60 (cc (HI.out w' J).blk).2.2.1) hS ?_|refine av fun K I=>?_|refine ai fun K I=>?_;go_simp;refine I _ _ ?_;clear I K|refine ao fun K I=>?_;go_simp|refine aj ?_)
   (refine aw hS fun K I=>?_)
   go_simp
   refine (iz (HI.out W0 hS).me).mono ?_
   rintro e W1 ⟨bE,rfl,hE,jH,gE⟩
   have lE:=hE.lt
   have z1:=jH.size
   replace hS:Chg [] w W1:=hS.stay jH
   refine I _ _ hS ?_
   clear I K
   clear jH
   go_wp2_with (first|refine al 26 _ rfl rfl (fun w' J=>dp (HI.out w' J).blk) hS ?_|refine al 60 _ rfl rfl (fun w' J=>ca Tryz.underlying60 (cc (HI.out w' J).blk).2.2.1) hS ?_|refine av fun K I=>?_|refine ai fun K I=>?_;go_simp;refine I _ _ ?_;clear I K|refine ao fun K I=>?_;go_simp|refine aj ?_)
   (refine aw hS fun K I=>?_)
   go_simp
   obtain ⟨W2,jB⟩:∃W,W = W1.alloc (.map #[] 0):=⟨_,rfl⟩
   have jA:Chg [] W1 W2:=by rw [jB];exact (Chg.refl [] _).alloc _
   have hP:MapB W2 W1.heap.size .i64 (fun _=>none):=by rw [jB];exact MapB.new _ _
   obtain ⟨bP,nG⟩:∃b,b = W1.heap.size:=⟨_,rfl⟩
   have gP:W1.heap.size≤bP:=Nat.le_of_eq nG.symm
   try rw [← jB]
   rw [← nG] at hP ⊢
   have lP:=hP.lt
   clear jB nG
   have z2:=jA.size
   replace hS:Chg [] w W2:=hS.stay jA
   refine I _ _ hS ?_
   clear I K
   replace hE:=hE.stay jA
   clear jA
   go_wp2_with (first|refine al 26 _ rfl rfl (fun w' J=>dp (HI.out w' J).blk) hS ?_|refine al 60 _ rfl rfl (fun w' J=>ca Tryz.underlying60 (cc (HI.out w' J).blk).2.2.1) hS ?_|refine av fun K I=>?_|refine ai fun K I=>?_;go_simp;refine I _ _ ?_;clear I K|refine ao fun K I=>?_;go_simp|refine aj ?_)
   (refine aw hS fun K I=>?_)
   go_simp
   obtain ⟨W3,mC⟩:∃W,W = W2.alloc (.map #[] 0):=⟨_,rfl⟩
   have jD:Chg [] W2 W3:=by rw [mC];exact (Chg.refl [] _).alloc _
   have hB:MapB W3 W2.heap.size .u64 (fun _=>none):=by rw [mC];exact MapB.new _ _
   obtain ⟨bB,qB⟩:∃b,b = W2.heap.size:=⟨_,rfl⟩
   have gB:W2.heap.size≤bB:=Nat.le_of_eq qB.symm
   try rw [← mC]
   rw [← qB] at hB ⊢
   have lB:=hB.lt
   clear mC qB
   have z3:=jD.size
   replace hS:Chg [] w W3:=hS.stay jD
   refine I _ _ hS ?_
   clear I K
   replace hE:=hE.stay jD
   replace hP:=hP.stay jD
   clear jD
   have oJ:=ah (se M.c bP bB bE)
   go_wp2_with (first|refine aw hS fun K I=>?_;refine nv _ rfl rfl ?_;refine I _ _ (hS.alloc _) ?_;clear I K|refine jr _ rfl oJ.out ?_ ?_;(focus (simp [Act.eval];done));go_simp|refine av fun K I=>?_|refine ai fun K I=>?_;go_simp;refine I _ _ ?_;clear I K|refine ao fun K I=>?_;go_simp|refine aj ?_)
   go_meet
   case rel =>
    have hn:Chg [] W3 (W3.alloc (.cells (mgc M.c bP bB bE) 62)):=(Chg.refl [] _).alloc _
    exact ⟨_,bP,bB,bE,rfl,ah (Mc0.mk (hS.stay hn) (Blk.new W3 _ _) (hP.stay hn) (hB.stay hn) (hE.stay hn) (by omega) (by omega))⟩
  ·have z0:=hS.size
   simp only [dt,List.filterMap_cons,List.filterMap_nil,List.getElem?_cons_succ,List.getElem?_cons_zero]
   go_wp2_with (first|refine al 26 _ rfl rfl (fun w' J=>dp (HI.out w' J).blk) hS ?_|refine al 60 _ rfl rfl (fun w' J=>ca Tryz.underlying60 (cc (HI.out w' J).blk).2.2.1) hS ?_|refine av fun K I=>?_|refine ai fun K I=>?_;go_simp;refine I _ _ ?_;clear I K|refine ao fun K I=>?_;go_simp|refine aj ?_)
   (refine aw hS fun K I=>?_)
   go_simp
   refine (iz (HI.out W0 hS).me).mono ?_
   rintro e W1 ⟨bE,rfl,hE,jH,gE⟩
   have lE:=hE.lt
   have z1:=jH.size
   replace hS:Chg [] w W1:=hS.stay jH
   refine I _ _ hS ?_
   clear I K
   clear jH
   go_wp2_with (first|refine al 26 _ rfl rfl (fun w' J=>dp (HI.out w' J).blk) hS ?_|refine al 60 _ rfl rfl (fun w' J=>ca Tryz.underlying60 (cc (HI.out w' J).blk).2.2.1) hS ?_|refine av fun K I=>?_|refine ai fun K I=>?_;go_simp;refine I _ _ ?_;clear I K|refine ao fun K I=>?_;go_simp|refine aj ?_)
   (refine aw hS fun K I=>?_)
   go_simp
   obtain ⟨W2,jB⟩:∃W,W = W1.alloc (.map #[] 0):=⟨_,rfl⟩
   have jA:Chg [] W1 W2:=by rw [jB];exact (Chg.refl [] _).alloc _
   have hB:MapB W2 W1.heap.size .u64 (fun _=>none):=by rw [jB];exact MapB.new _ _
   obtain ⟨bB,qB⟩:∃b,b = W1.heap.size:=⟨_,rfl⟩
   have gB:W1.heap.size≤bB:=Nat.le_of_eq qB.symm
   try rw [← jB]
   rw [← qB] at hB ⊢
   have lB:=hB.lt
   clear jB qB
   have z2:=jA.size
   replace hS:Chg [] w W2:=hS.stay jA
   refine I _ _ hS ?_
   clear I K
   replace hE:=hE.stay jA
   clear jA
   go_wp2_with (first|refine al 26 _ rfl rfl (fun w' J=>dp (HI.out w' J).blk) hS ?_|refine al 60 _ rfl rfl (fun w' J=>ca Tryz.underlying60 (cc (HI.out w' J).blk).2.2.1) hS ?_|refine av fun K I=>?_|refine ai fun K I=>?_;go_simp;refine I _ _ ?_;clear I K|refine ao fun K I=>?_;go_simp|refine aj ?_)
   (refine aw hS fun K I=>?_)
   go_simp
   obtain ⟨W3,mC⟩:∃W,W = W2.alloc (.map #[] 0):=⟨_,rfl⟩
   have jD:Chg [] W2 W3:=by rw [mC];exact (Chg.refl [] _).alloc _
   have hP:MapB W3 W2.heap.size .i64 (fun _=>none):=by rw [mC];exact MapB.new _ _
   obtain ⟨bP,nG⟩:∃b,b = W2.heap.size:=⟨_,rfl⟩
   have gP:W2.heap.size≤bP:=Nat.le_of_eq nG.symm
   try rw [← mC]
   rw [← nG] at hP ⊢
   have lP:=hP.lt
   clear mC nG
   have z3:=jD.size
   replace hS:Chg [] w W3:=hS.stay jD
   refine I _ _ hS ?_
   clear I K
   replace hE:=hE.stay jD
   replace hB:=hB.stay jD
   clear jD
   have oJ:=ah (se M.c bP bB bE)
   go_wp2_with (first|refine aw hS fun K I=>?_;refine nv _ rfl rfl ?_;refine I _ _ (hS.alloc _) ?_;clear I K|refine jr _ rfl oJ.out ?_ ?_;(focus (simp [Act.eval];done));go_simp|refine av fun K I=>?_|refine ai fun K I=>?_;go_simp;refine I _ _ ?_;clear I K|refine ao fun K I=>?_;go_simp|refine aj ?_)
   go_meet
   case rel =>
    have hn:Chg [] W3 (W3.alloc (.cells (mgc M.c bP bB bE) 62)):=(Chg.refl [] _).alloc _
    exact ⟨_,bP,bB,bE,rfl,ah (Mc0.mk (hS.stay hn) (Blk.new W3 _ _) (hP.stay hn) (hB.stay hn) (hE.stay hn) (by omega) (by omega))⟩
 obtain ⟨m,bp,bo,be,rfl,h0⟩:=hcut
 have AK:=ah (HI.out wc h0.out.chg)
 have q1:=(cc AK.out.blk).1
 have l1:=h0.out.blk.lt
 go_wp2_with (refine gi rfl _ rfl Tryz.underlying58 rfl AK.out.mp ?_;intro W1 n1 nJ jH pC;go_simp)
 have HC:=ah (Mc0.begin h0.out jH pC (lp:=fun z=>(fp z).isSome) (lo:=fun z=>(M.ob z).isSome) (fun z=>by show (fp z).isSome = _;rw [AK.out.hp];cases M.pr z <;> rfl) (fun _=>rfl))
 have xP:=ah nJ
 obtain ⟨r,hr⟩:∃r,r = wc.heap.size:=⟨_,rfl⟩
 rw [← hr] at HC xP ⊢
 have lb:=(HI.out w (Chg.refl _ _))
 have lbp:=lb.mp.lt
 have lbo:=lb.mo.lt
 clear nJ jH pC q1 l1 l0 h0 hr AK lb
 go_loopw [] (fun wr=>∃lp gq GQ n,Hid (Mc w wr m bp bo be r M fe lp (fun z=>(M.ob z).isSome) gq GQ (fun _=>.slice none 0 0))∧Hid (MapIt wr bp0 r .i64 fp lp n)) (fun wr=>si wr bp0 r)
 case atStart=>exact ⟨_,_,_,_,HC,xP⟩
 case round =>
  obtain ⟨lp,gq,GQ,n,kO,nJ⟩:=hrel
  have mV:=nJ.out.left_eq
  have HP:=ah (HI.out wr kO.out.chg)
  go_wp2_with (refine ie rfl _ rfl rfl nJ.out ?_ ?_)
  ·intro h1 h2
   have Ac:=ah kO.out
   have AH:=ah h2
   have lb:=kO.out.blk.lt
   have q2:=(cc HP.out.blk).2.1
   have l2:=HP.out.blk.lt
   have tB:=ah HP.out.mo
   clear kO nJ mV HP h1 h2 HC xP
   go_wp2_with (refine gi rfl _ rfl Tryz.underlying59 rfl tB.out ?_;intro W2 n2 Gj jA oH;go_simp)
   have jU:=ah (Ac.out.again jA oH)
   have Fc:=ah (show MapIt W2 bo0 wr.heap.size .u64 fo (fun z=>(M.ob z).isSome) n2 from by
    have e:(fun z=>(fo z).isSome) = fun z=>(M.ob z).isSome:=by
     funext z
     rw [(HI.out wr Ac.out.chg).ho]
     cases M.ob z <;> rfl
    rw [← e]
    exact Gj)
   obtain ⟨r2,Bi⟩:∃r,r = wr.heap.size:=⟨_,rfl⟩
   rw [← Bi] at jU Fc ⊢
   clear Gj jA oH q2 lb l2 Bi Ac tB
   go_loopw [] (fun wx=>∃lo ov n,Hid (Mc w wx m bp bo be r2 M fe lp lo gq GQ ov)∧Hid (MapIt wx bo0 r2 .u64 fo lo n)) (fun wx=>si wx bo0 r2)
   case atStart=>exact ⟨_,_,_,jU,Fc⟩
   case round =>
    obtain ⟨lo,ov,n,kO,nJ⟩:=hrel
    have mV:=nJ.out.left_eq
    have HP:=ah (HI.out wr kO.out.chg)
    go_wp2_with (refine ie rfl _ rfl rfl nJ.out ?_ ?_)
    ·intro h1 h2
     have HE:=ah (kO.out.end_ HP.out AH.out h2)
     have pQ:=ah kO.out.chg
     have lb:=kO.out.blk.lt
     clear kO nJ mV HP
     go_wp2_with fail
     go_ret
     obtain ⟨F,k1,k2⟩:=HE.out
     exact ⟨⟨_,F,rfl,k1,k2⟩,pQ.out⟩
    ·intro z v w' n' h1 h2 h3 h4 h5 h6 h7
     obtain ⟨B,hB,rfl⟩:∃B,M.ob z = some B∧v = ov0 z:=by
      rw [HP.out.ho] at h2
      cases hB:M.ob z with
      | none=>rw [hB] at h2;cases h2
      | some B=>rw [hB] at h2;exact ⟨B,rfl,(Option.some.inj h2).symm⟩
     have lD:=ah (kO.out.next h5)
     have qP:=ah ((HI.out w' lD.out.chg).ob z B hB)
     have HB:=ah hB
     have qZ:=ah h3
     have jF:=h4
     have lm:=lD.out.blk.lt
     clear kO nJ HP hB h1 h2 h3 h4 h5 h6
     go_upto_region 11 with (fail)
     refine rgt [0,0,0,5,0,0,6,3] [none,none,none,none,none,none,none,none] (fun W=>Chg [] w' W) ?_
     have hS:Chg [] w' w'.drew:=(Chg.refl [] w').drew
     generalize w'.drew = W0 at hS ⊢
     go_wp2_with (first|refine al 59 _ rfl rfl (fun w1 oV=>ca Tryz.underlying59 (cc (lD.out.stay oV).blk).2.1) hS ?_|refine av fun K I=>?_|refine ai fun K I=>?_;go_simp;refine I _ _ ?_;clear I K|refine ao fun K I=>?_;go_simp|refine aj ?_)
     (refine aw hS fun K I=>?_)
     go_simp
     refine (clone_b ((qP.out.1.chg hS (fun k hk=>ab)).re) (by have:=qP.out.2.2;omega)).mono ?_
     rintro e W3 ⟨⟨A3,n3,c3,rfl,hs3,hn3⟩,jD⟩
     have lM:=hS.stay jD
     have zs:=hS.size
     refine I _ _ lM ?_
     clear I K
     have jE:=ah (lD.out.stay lM)
     go_wp2_with (first|refine ao fun K I=>?_;refine fd _ _ _ rfl Tryz.underlying59 Tryz.underlying37 rfl rfl rfl jE.out.mo ?_;intro W5 Es U;refine I _ _ ?_;clear I K|refine av fun K I=>?_|refine ai fun K I=>?_;go_simp;refine I _ _ ?_;clear I K|refine ao fun K I=>?_;go_simp|refine aj ?_)
     have lbo2:=jE.out.mo.lt
     have gbo:=lD.out.g
     have jZ:∀k∈own (.slice A3 n3 c3),k∉[bo]:=fun k hk hm=>by
      obtain rfl:=aa hm
      have:=hn3 _ hk
      have:=lD.out.mo.lt
      omega
     have BK:Chg [bo] w' W5:=(lM.up [bo]).trans U (fun x hx=>.inl hx)
     have vG:=ah (lD.out.stepO (W1:=W5) HB.out BK (hs3.chg U jZ) (fun k hk=>by have:=hn3 k hk;omega) Es)
     have rR:=ah (qZ.out.chg BK (by simp;omega) (by simpa using lD.out.nr.2.2.1))
     go_roundw
     case rel =>
      (repeat apply Exists.intro)
      refine ⟨⟨_,_,_,vG,rR⟩,rfl⟩
     case measure=>rw [mV,rR.out.left_eq];exact jF
  ·intro z v w' n' h1 h2 h3 h4 h5 h6 h7
   obtain ⟨p,hp,rfl⟩:∃p,M.pr z = some p∧v = .pointer (some ⟨gb z,0,none⟩):=by
    rw [HP.out.hp] at h2
    cases hB:M.pr z with
    | none=>rw [hB] at h2;cases h2
    | some B=>rw [hB] at h2;exact ⟨B,rfl,(Option.some.inj h2).symm⟩
   have lD:=ah (kO.out.next h5)
   have Ef:=ah ((HI.out w' lD.out.chg).pr z p hp)
   have HB:=ah hp
   have qZ:=ah h3
   have jF:=h4
   have lm:=lD.out.blk.lt
   clear kO nJ HP hp h1 h2 h3 h4 h5 h6
   go_upto_region 7 with (fail)
   refine rgt [0,0,0,5,0,0,6,3] [none,none,none,none,none,none,none,none] (fun W=>Chg [] w' W) ?_
   have hS:Chg [] w' w'.drew:=(Chg.refl [] w').drew
   generalize w'.drew = W0 at hS ⊢
   go_wp2_with (first|refine al 58 _ rfl rfl (fun w1 oV=>ca Tryz.underlying58 (cc (lD.out.stay oV).blk).1) hS ?_|refine av fun K I=>?_|refine ai fun K I=>?_;go_simp;refine I _ _ ?_;clear I K|refine ao fun K I=>?_;go_simp|refine aj ?_)
   (refine aw hS fun K I=>?_)
   go_simp
   refine (dR (Ef.out.chg hS (fun k hk=>by cases hk))).mono ?_
   rintro e W3 ⟨⟨b3,F3,rfl,Em,hF3⟩,jD⟩
   have lM:=hS.stay jD
   have zs:=hS.size
   refine I _ _ lM ?_
   clear I K
   have jE:=ah (lD.out.stay lM)
   go_wp2_with (first|refine ao fun K I=>?_;refine fd _ _ _ rfl Tryz.underlying58 Tryz.underlying3 rfl rfl rfl jE.out.mp ?_;intro W5 Es U;refine I _ _ ?_;clear I K|refine av fun K I=>?_|refine ai fun K I=>?_;go_simp;refine I _ _ ?_;clear I K|refine ao fun K I=>?_;go_simp|refine aj ?_)
   have lbp2:=jE.out.mp.lt
   have gbp:=lD.out.g
   have jZ:∀k∈[bp],¬ F3 k:=fun k hm hk=>by
    obtain rfl:=aa hm
    have:=hF3 _ hk
    have:=lD.out.mp.lt
    omega
   have BK:Chg [bp] w' W5:=(lM.up [bp]).trans U (fun x hx=>.inl hx)
   have vG:=ah (lD.out.stepP (W1:=W5) HB.out BK (Em.chg U jZ) (fun k hk=>by have:=hF3 k hk;omega) Es)
   have rR:=ah (qZ.out.chg BK (by simp;omega) (by simpa using lD.out.nr.2.1))
   go_roundw
   case rel =>
    (repeat apply Exists.intro)
    refine ⟨⟨_,_,_,_,vG,rR⟩,rfl⟩
   case measure=>rw [mV,rR.out.left_eq];exact jF
end Go.Proofs.YtfoleblcaloeoaaGreatDoor
