import Derived.Test.YtfoleblcaloeoaaGreatDoorZar
set_option maxHeartbeats 40000000
set_option maxRecDepth 20000
namespace Go.Proofs.YtfoleblcaloeoaaGreatDoor
open Go Go.RowKit
variable {w:World}
theorem piv_w {g off c n a l:Nat} {S:Nat→Prop} (h:US w g off c n S) (hb:a+l≤n) (hl:1≤l) (hn:n≤1000) :
  Calls Tryz.prog 127 #[.slice (some ⟨g,off,none⟩) n c,.int .i64 (a:Nat),.int .i64 ((a+l:Nat):Int)] w fun e w'=>(∃p z:Nat,e = .returned (.tuple #[.int .i64 (p:Nat),.int .i64 (z:Nat)])∧a≤p∧p < a+l)∧Chg [] w w':=by
 have HU:=bk h;clear h;have oU:(n:Int)≤1000:=by omega
 have nH:(a:Int)+(l:Int)≤(n:Int):=by omega
 obtain ⟨d,hd1,Hw⟩:∃d:Nat,4 * d≤l∧l < 4 * d+4:=⟨l / 4,by omega,by omega⟩;have hd:IntKind.i64.wrap ((l:Int).tdiv 4) = (d:Int):=by rw [IntKind.wrap_i64,Int.tdiv_eq_ediv_of_nonneg (by omega)];omega
 have HD:=bk (ai hd1 (ai Hw (ai hb hl)));have hd3:4 * (d:Int)≤(l:Int):=by omega
 clear hd1 Hw hb hl;go_enter Tryz.func127,Tryz.ntmps127;go_upto_region 6 with (fail)
 obtain ⟨i,hi⟩:∃i:Nat,(a:Int)+((a:Int)+(l:Int) - (a:Int)) / 4 = i:=⟨a+l / 4,by omega⟩;obtain ⟨j,hj⟩:∃i:Nat,(a:Int)+((a:Int)+(l:Int) - (a:Int)) / 4 * 2 = i:=⟨a+l / 4 * 2,by omega⟩;obtain ⟨k,hk⟩:∃i:Nat,(a:Int)+((a:Int)+(l:Int) - (a:Int)) / 4 * 3 = i:=⟨a+l / 4 * 3,by omega⟩;have e0:(a:Int)+(l:Int) - (a:Int) = (l:Int):=by omega
 rw [hi,hj,hk,e0];have HI:=bk (show i = a+l / 4∧j = a+l / 4 * 2∧k = a+l / 4 * 3 by omega);obtain ⟨q,hq⟩:∃q,q = w.heap.size:=⟨_,rfl⟩;have hB:Blk (w.alloc (.cells #[.int .i64 0] 3)) q 3 #[.int .i64 ((0:Nat):Int)]:=by rw [hq];exact ax w _ _
 have AC:=HU.out.stay ((av [] w).alloc (.cells #[.int .i64 0] 3));have hgq:q≠g:=by have:=HU.out.lt;omega
 have zC:Chg [] w (w.alloc (.cells #[.int .i64 0] 3)):=(av [] w).alloc _;have HQ:=bk (show w.heap.size≤q∧q≠g from ⟨by omega,hgq⟩);rw [← hq];generalize w.alloc (.cells #[.int .i64 0] 3) = W1 at hB AC zC ⊢;have yB:=bk AC;have tV:=bk hB;have lU:=bk zC;clear hi hj hk e0 hq hgq hB AC zC hd;by_cases h8:8≤l
 ·have d8:decide (8≤(l:Int)) = true:=ae (by omega);have d8':decide (8≤l) = true:=ae (by omega);go_upto_region 7 with (fail)
  have H8:=bk h8;clear h8;by_cases h50:50≤l
  ·have d5:decide (50≤(l:Int)) = true:=ae (by omega);have d5':decide (50≤l) = true:=ae (by omega);have tF:=bk h50;clear h50;go_wp2_with fail;refine (fB yB.out tV.out HQ.out.2 (by have:=HD.out;have:=HI.out;have:=tF.out;omega) (i:=i) (by have:=HD.out;have:=HI.out;have:=tF.out;omega) (by have:=HD.out;have:=HI.out;have:=tF.out;omega) hn).mono ?_;rintro e W2 ⟨⟨x2,rfl,hx⟩,⟨s2,mY,mT⟩,lC⟩;have uC:=bk (ai hx mY);have oI:=bk mT;have lE:=bk (lU.out.trans lC (fun y hy=>.inr (by obtain rfl:=aa hy;exact HQ.out.1)));have GN:=bk (HU.out.stay lE.out);clear hx mY mT lC;go_wp2_with fail;refine (fB GN.out oI.out HQ.out.2 (by have:=HD.out;have:=HI.out;have:=tF.out;have:=uC.out;omega) (i:=j) (by have:=HD.out;have:=HI.out;have:=tF.out;have:=uC.out;omega) (by have:=HD.out;have:=HI.out;have:=tF.out;have:=uC.out;omega) hn).mono ?_;rintro e W3 ⟨⟨x3,rfl,hx⟩,⟨s3,mY,mT⟩,lC⟩;have uU:=bk (ai hx mY);have lI:=bk mT;have kL:=bk (lE.out.trans lC (fun y hy=>.inr (by obtain rfl:=aa hy;exact HQ.out.1)));have HU3:=bk (HU.out.stay kL.out);clear hx mY mT lC;go_wp2_with fail;refine (fB HU3.out lI.out HQ.out.2 (by have:=HD.out;have:=HI.out;have:=tF.out;have:=uC.out;have:=uU.out;omega) (i:=k) (by have:=HD.out;have:=HI.out;have:=tF.out;have:=uC.out;have:=uU.out;omega) (by have:=HD.out;have:=HI.out;have:=tF.out;have:=uC.out;have:=uU.out;omega) hn).mono ?_;rintro e W4 ⟨⟨x4,rfl,hx⟩,⟨s4,mY,mT⟩,lC⟩;have Bu:=bk (ai hx mY);have lG:=bk mT;have lA:=bk (kL.out.trans lC (fun y hy=>.inr (by obtain rfl:=aa hy;exact HQ.out.1)));have HU4:=bk (HU.out.stay lA.out);clear hx mY mT lC;go_wp2_with fail;refine (med_w HU4.out lG.out HQ.out.2 (by have:=HD.out;have:=HI.out;have:=tF.out;have:=uC.out;have:=uU.out;have:=Bu.out;omega) (i:=x2) (j:=x3) (k:=x4) (by have:=HD.out;have:=HI.out;have:=tF.out;have:=uC.out;have:=uU.out;have:=Bu.out;omega) (by have:=HD.out;have:=HI.out;have:=tF.out;have:=uC.out;have:=uU.out;have:=Bu.out;omega) (by have:=HD.out;have:=HI.out;have:=tF.out;have:=uC.out;have:=uU.out;have:=Bu.out;omega) hn).mono ?_;rintro e W9 ⟨⟨x,rfl,hx⟩,⟨s9,mY,mT⟩,lC⟩;have HR:=bk (show (∃p z:Nat,Ending.returned (.tuple #[.int .i64 (x:Nat),.int .i64 0]) = .returned (.tuple #[.int .i64 (p:Nat),.int .i64 (z:Nat)])∧a≤p∧p < a+l)∧(∃p z:Nat,Ending.returned (.tuple #[.int .i64 (x:Nat),.int .i64 1]) = .returned (.tuple #[.int .i64 (p:Nat),.int .i64 (z:Nat)])∧a≤p∧p < a+l)∧(∃p z:Nat,Ending.returned (.tuple #[.int .i64 (x:Nat),.int .i64 2]) = .returned (.tuple #[.int .i64 (p:Nat),.int .i64 (z:Nat)])∧a≤p∧p < a+l) from ⟨⟨x,0,rfl,by have:=HD.out;have:=HI.out;have:=tF.out;have:=uC.out;have:=uU.out;have:=Bu.out;omega,by have:=HD.out;have:=HI.out;have:=tF.out;have:=uC.out;have:=uU.out;have:=Bu.out;omega⟩,⟨x,1,rfl,by have:=HD.out;have:=HI.out;have:=tF.out;have:=uC.out;have:=uU.out;have:=Bu.out;omega,by have:=HD.out;have:=HI.out;have:=tF.out;have:=uC.out;have:=uU.out;have:=Bu.out;omega⟩,⟨x,2,rfl,by have:=HD.out;have:=HI.out;have:=tF.out;have:=uC.out;have:=uU.out;have:=Bu.out;omega,by have:=HD.out;have:=HI.out;have:=tF.out;have:=uC.out;have:=uU.out;have:=Bu.out;omega⟩⟩);have mM:=bk (lA.out.trans lC (fun y hy=>.inr (by obtain rfl:=aa hy;exact HQ.out.1)));have qc:=mT.cell 0;simp at qc;clear hx mY mT lC;by_cases z0:s9 = 0
   ·subst z0;go_wp2_with fail;go_ret2;exact ⟨HR.out.2.1,mM.out⟩
   ·have y0:((s9:Int) == 0) = false:=aj (by omega);clear z0;by_cases z1:s9 = 12
    ·subst z1;go_wp2_with fail;go_ret2;exact ⟨HR.out.2.2,mM.out⟩
    ·have y1:((s9:Int) == 12) = false:=aj (by omega);clear z1;go_wp2_with fail;go_ret2;exact ⟨HR.out.1,mM.out⟩
  ·have d5:decide (50≤(l:Int)) = false:=ac (by omega);have d5':decide (50≤l) = false:=ac (by omega);clear h50;go_wp2_with fail;refine (med_w yB.out tV.out HQ.out.2 (by have:=HD.out;have:=HI.out;have:=H8.out;omega) (i:=i) (j:=j) (k:=k) (by have:=HD.out;have:=HI.out;have:=H8.out;omega) (by have:=HD.out;have:=HI.out;have:=H8.out;omega) (by have:=HD.out;have:=HI.out;have:=H8.out;omega) hn).mono ?_;rintro e W9 ⟨⟨x,rfl,hx⟩,⟨s9,mY,mT⟩,lC⟩;have HR:=bk (show (∃p z:Nat,Ending.returned (.tuple #[.int .i64 (x:Nat),.int .i64 0]) = .returned (.tuple #[.int .i64 (p:Nat),.int .i64 (z:Nat)])∧a≤p∧p < a+l)∧(∃p z:Nat,Ending.returned (.tuple #[.int .i64 (x:Nat),.int .i64 1]) = .returned (.tuple #[.int .i64 (p:Nat),.int .i64 (z:Nat)])∧a≤p∧p < a+l)∧(∃p z:Nat,Ending.returned (.tuple #[.int .i64 (x:Nat),.int .i64 2]) = .returned (.tuple #[.int .i64 (p:Nat),.int .i64 (z:Nat)])∧a≤p∧p < a+l) from ⟨⟨x,0,rfl,by have:=HD.out;have:=HI.out;have:=H8.out;omega,by have:=HD.out;have:=HI.out;have:=H8.out;omega⟩,⟨x,1,rfl,by have:=HD.out;have:=HI.out;have:=H8.out;omega,by have:=HD.out;have:=HI.out;have:=H8.out;omega⟩,⟨x,2,rfl,by have:=HD.out;have:=HI.out;have:=H8.out;omega,by have:=HD.out;have:=HI.out;have:=H8.out;omega⟩⟩);have mM:=bk (lU.out.trans lC (fun y hy=>.inr (by obtain rfl:=aa hy;exact HQ.out.1)));have qc:=mT.cell 0;simp at qc;clear hx mY mT lC;by_cases z0:s9 = 0
   ·subst z0;go_wp2_with fail;go_ret2;exact ⟨HR.out.2.1,mM.out⟩
   ·have y0:((s9:Int) == 0) = false:=aj (by omega);clear z0;by_cases z1:s9 = 12
    ·subst z1;go_wp2_with fail;go_ret2;exact ⟨HR.out.2.2,mM.out⟩
    ·have y1:((s9:Int) == 12) = false:=aj (by omega);clear z1;go_wp2_with fail;go_ret2;exact ⟨HR.out.1,mM.out⟩
 ·have d8:decide (8≤(l:Int)) = false:=ac (by omega);have d8':decide (8≤l) = false:=ac (by omega);have qc:=tV.out.cell 0;simp at qc;have HR:=bk (show ∃p z:Nat,Ending.returned (.tuple #[.int .i64 (j:Nat),.int .i64 1]) = .returned (.tuple #[.int .i64 (p:Nat),.int .i64 (z:Nat)])∧a≤p∧p < a+l from ⟨j,1,rfl,by have:=HD.out;have:=HI.out;omega,by have:=HD.out;have:=HI.out;omega⟩);clear h8;go_wp2_with fail;go_ret2;exact ⟨HR.out,lU.out⟩
variable {b size:Nat} {v:Value} {e:TypeId}
theorem SE.not_blk {α:Type} {enc:α→List Value} {l:List α} (h:SE enc size e w v l) {t:TypeId} {cs:Array Value} (hb:Blk w b t cs) (ht:t≠e):b∉own v:=fun hk=>by
 obtain ⟨cur,hc⟩:=Sl.blk h hk
 exact Blk.ne_ hb hc ht rfl
variable {f:Int→Option Value}
theorem SE.not_map {α:Type} {enc:α→List Value} {l:List α} (h:SE enc size e w v l) {k:IntKind} (hb:MapB w b k f):b∉own v:=fun hk=>by
 obtain ⟨cur,hc⟩:=Sl.blk h hk
 exact bj hc hb rfl
theorem OIn.chg {F:List Nat} {w w':World} {vo:Value} {L:List Ob} {ob:Int→Option (List Nat)} (h:OIn w vo L ob) (hc:Chg F w w') (h1:∀k∈own vo,k∉F) (h2:∀o∈L,∀k∈own o.v,k∉F):OIn w' vo L ob :=
 ⟨SE.chg h.sl hc h1,fun o ho=>⟨SE.chg (h.bt o ho).1 hc (h2 o ho),(h.bt o ho).2⟩,h.nd,h.ap,h.lk⟩
theorem EIn.chg {F:List Nat} {w w':World} {ve:Value} {E:List Nat} {ev:Int→Bool} (h:EIn w ve E ev) (hc:Chg F w w') (h1:∀k∈own ve,k∉F):EIn w' ve E ev:=⟨SE.chg h.sl hc h1,h.e64,h.lk⟩
section
variable {w w':World} {m:Nat} {M:Mo} {sp:Nat→Option Nat} {vo ve:Value} {L:List Ob} {E:List Nat} {gb gm:Nat→Nat} {gs:Nat→Sq}
theorem WIn.put (h:WIn w m M sp vo ve L E gb gm gs) {n:Nat} {p p':Pr} (hp:M.pr n = some p) (hc:Chg [gb n,gm n] w w') {s':Sq} (hq:QB w' (gb n) s' (gm n)) (hm:MapB w' (gm n) .i64 (byF s')) (hr:RelP p' s') :
  WIn w' m { M with pr:=upd M.pr n (some p') } sp vo ve L E gb gm (upN gs n s'):=by
 obtain ⟨b1,b2,b3⟩:=h.pr n p hp;have hn:(1:Int)≤n∧(n:Int)≤8:=h.rng n p hp;have notin:∀k,k≠gb n→k≠gm n→k∉[gb n,gm n]:=fun k h1 h2 h3=>by simp at h3;exact h3.elim h1 h2
 refine ⟨aw h.blk hc (notin _ (Blk.ne_ h.blk b1 (by decide)) (bj h.blk b2)),h.ob.chg hc (fun k hk=>?_) (fun o ho k hk=>?_),h.ev.chg hc (fun k hk=>?_),fun i hi=>?_,fun z q rB=>?_,fun i q rB=>?_,fun i i' q q' rB hq'' kT=>?_⟩
 ·exact notin _ (fun e=>SE.not_blk h.ob.sl b1 (by decide) (e ▸ hk)) (fun e=>SE.not_map h.ob.sl b2 (e ▸ hk))
 ·exact notin _ (fun e=>SE.not_blk (h.ob.bt o ho).1 b1 (by decide) (e ▸ hk)) (fun e=>SE.not_map (h.ob.bt o ho).1 b2 (e ▸ hk))
 ·exact notin _ (fun e=>SE.not_blk h.ev.sl b1 (by decide) (e ▸ hk)) (fun e=>SE.not_map h.ev.sl b2 (e ▸ hk))
 ·show sp i = (upd M.pr n (some p') i).map fun _=>gb i;rw [h.sp i hi];unfold upd;by_cases e:(i:Int) = n
  ·rw [ah e,e,hp];rfl
  ·rw [ag e]
 ·have mV:upd M.pr n (some p') z = some q:=rB;unfold upd at mV;by_cases e:z = n
  ·rw [e];exact hn
  ·rw [ag e] at mV;exact h.rng z q mV
 ·have mV:upd M.pr n (some p') i = some q:=rB;unfold upd at mV;by_cases e:(i:Int) = n
  ·have e':i = n:=(by omega);subst e';rw [ah rfl] at mV;obtain rfl:=aq mV;have eg:upN gs i s' i = s':=ah rfl;rw [eg];exact ⟨hq,hm,hr⟩
  ·rw [ag e] at mV;have e':i≠n:=fun x=>e (by rw [x]);obtain ⟨c1,c2,c3⟩:=h.pr i q mV;obtain ⟨d1,d2⟩:=h.ib i n q p mV hp e';have eg:upN gs n s' i = gs i:=ag e';rw [eg];exact ⟨aw c1 hc (notin _ d1 (bj c1 b2)),c2.chg hc (notin _ (fun x=>bj b1 c2 x.symm) d2),c3⟩
 ·have t1:∃r,M.pr i = some r:=by
   have mV:upd M.pr n (some p') i = some q:=rB;unfold upd at mV;by_cases e:(i:Int) = n
   ·exact ⟨p,by rw [e];exact hp⟩
   ·rw [ag e] at mV;exact ⟨q,mV⟩
  have t2:∃r,M.pr i' = some r:=by
   have mV:upd M.pr n (some p') i' = some q':=hq'';unfold upd at mV;by_cases e:(i':Int) = n
   ·exact ⟨p,by rw [e];exact hp⟩
   ·rw [ag e] at mV;exact ⟨q',mV⟩
  obtain ⟨r1,t1⟩:=t1;obtain ⟨r2,t2⟩:=t2;exact h.ib i i' r1 r2 t1 t2 kT
theorem WIn.kill (h:WIn w m M sp vo ve L E gb gm gs) {n:Nat} (hn:n < 9):WIn (w.setCell ⟨m,94+n,none⟩ (.pointer none)) m { M with pr:=upd M.pr n none } (upN sp n none) vo ve L E gb gm gs:=by
 have hc:Chg [m] w (w.setCell ⟨m,94+n,none⟩ (.pointer none)):=(av [m] w).setCell (p:=⟨m,94+n,none⟩) (.inl (by simp)) _;have up:∀(i:Int) q,upd M.pr n none i = some q→M.pr i = some q∧i≠n:=fun i q hq=>by
  unfold upd at hq;by_cases e:i = n
  ·rw [ah e] at hq;cases hq
  ·rw [ag e] at hq;exact ⟨hq,e⟩
 refine ⟨WB.set_sp h.blk hn none,h.ob.chg hc (fun k hk=>?_) (fun o ho k hk=>?_),h.ev.chg hc (fun k hk=>?_),fun i hi=>?_,fun z q hq=>h.rng z q (up z q hq).1,fun i q hq=>?_,fun i i' q q' hq rB kT=>h.ib i i' q q' (up _ _ hq).1 (up _ _ rB).1 kT⟩
 ·simp;exact fun e=>SE.not_blk h.ob.sl h.blk (by decide) (e ▸ hk)
 ·simp;exact fun e=>SE.not_blk (h.ob.bt o ho).1 h.blk (by decide) (e ▸ hk)
 ·simp;exact fun e=>SE.not_blk h.ev.sl h.blk (by decide) (e ▸ hk)
 ·show upN sp n none i = (upd M.pr n none i).map fun _=>gb i;unfold upN upd;by_cases e:i = n
  ·rw [ah e,ah (by rw [e])];rfl
  ·rw [ag e,ag (by omega)];exact h.sp i hi
 ·obtain ⟨c1,c2,c3⟩:=h.pr i q (up _ _ hq).1;exact ⟨aw c1 hc (by simp;exact fun e=>Blk.ne_ h.blk c1 (by decide) e.symm),c2.chg hc (by simp;exact fun e=>bj h.blk c2 e.symm),c3⟩
end
variable {gs:Nat→Sq} {gb gm:Nat→Nat} {E:List Nat} {L:List Ob} {vo ve:Value} {sp:Nat→Option Nat} {M:Mo} {m:Nat}
theorem WIn.new {w':World} (h:WIn w m M sp vo ve L E gb gm gs) {B:Nat} (kG:∀k,FW' M m vo ve L gb gm k→k < B) {F:List Nat} (hc:Chg F w w') (hF:∀k∈F,B≤k):WIn w' m M sp vo ve L E gb gm gs :=
 h.cp (CP.of (F:=fun k=>B≤k) hc (fun k hk=>.inl (hF k hk))) (fun k hk hB=>by have:=kG k hk;omega)
theorem FW'.sub {M':Mo} {k:Nat} (h:FW' M' m vo ve L gb gm k) (hs:∀(i:Nat) q,M'.pr i = some q→∃q',M.pr i = some q'):FW' M m vo ve L gb gm k:=by
 rcases h with h | h | h | h | ⟨n,p,hp,hk⟩
 ·exact .inl h
 ·exact .inr (.inl h)
 ·exact .inr (.inr (.inl h))
 ·exact .inr (.inr (.inr (.inl h)))
 ·obtain ⟨q',hq⟩:=hs n p hp;exact .inr (.inr (.inr (.inr ⟨n,q',hq,hk⟩)))
theorem nt {n:Nat} {p:Pr} (hp:M.pr n = some p) (o:Option Pr) (i:Nat) (q:Pr) (h:upd M.pr n o i = some q):∃q',M.pr i = some q':=by
 unfold upd at h;by_cases e:(i:Int) = n
 ·exact ⟨p,by rw [e];exact hp⟩
 ·rw [ag e] at h;exact ⟨q,h⟩
def SpR (w w':World) (m:Nat) (M:Mo) (vo ve:Value) (L:List Ob) (E:List Nat) (gb gm:Nat→Nat) (n:Nat) (R:Rs × Option Mo) (e:Ending):Prop :=
 ∃A k c,e = .returned (.agg (rsc R.1 (.slice A k c)))∧RB w' (.slice A k c) R.1.l∧(∀i∈own (.slice A k c),w.heap.size≤i)∧(∃sp' gs',WIn w' m (if R.1.e = 0 then R.2.getD M else M) sp' vo ve L E gb gm gs')∧Chg [m,gb n,gm n] w w'
theorem aL {x:Cl} (h:KB w b x v):(loadVar 45 ⟨b,8,none⟩).run Tryz.prog w = .ok (.agg #[.int .u8 x.ok,.int .u8 x.om]) w:=by
 obtain ⟨c0,c1,c2,c3,c4,c5,c6,c7,c8,c9,c10,c11,cl,cf⟩:=ay h;have:=run_loadVar_mid (P:=Tryz.prog) w b 8 45 [.int .u8 x.ok,.int .u8 x.om] _ (fun j u hu=>by
  match j with
  | 0=>obtain rfl:=aq hu;exact c8
  | 1=>obtain rfl:=aq hu;exact c9
  | j+2=>cases hu) Tryz.underlying45 rfl kv
 simpa using this
variable {bm:Nat}
theorem aM {s:Sq} (h:QB w b s bm) {i:Nat} (hi:i < 1024):(loadVar 45 ⟨b,2049+i * 2,none⟩).run Tryz.prog w = .ok (.agg #[.int .u8 (s.po i).1,.int .u8 (s.po i).2]) w:=by
 obtain ⟨c0,c1⟩:=QB.po h hi;have:=run_loadVar_mid (P:=Tryz.prog) w b (2049+i * 2) 45 [.int .u8 (s.po i).1,.int .u8 (s.po i).2] _ (fun j u hu=>by
  match j with
  | 0=>obtain rfl:=aq hu;exact c0
  | 1=>obtain rfl:=aq hu;exact c1
  | j+2=>cases hu) Tryz.underlying45 rfl kv
 simpa using this
theorem xz {s:Sq} (h:QB w b s bm):(loadVar 45 ⟨b,4097,none⟩).run Tryz.prog w = .ok (.agg #[.int .u8 s.ak,.int .u8 s.am]) w:=by
 obtain ⟨c0,c1⟩:=QB.all h;have:=run_loadVar_mid (P:=Tryz.prog) w b 4097 45 [.int .u8 s.ak,.int .u8 s.am] _ (fun j u hu=>by
  match j with
  | 0=>obtain rfl:=aq hu;exact c0
  | 1=>obtain rfl:=aq hu;exact c1
  | j+2=>cases hu) Tryz.underlying45 rfl kv
 simpa using this
section
variable {ops:Array Oper} {rest:List Oper} {o:Oper} {a:Act} {w:World} {Q:Exit→Act→World→Prop} {b:Nat} {s:Sq} {bm:Nat}
theorem wg {k m:Nat} (hg:o.guard = none) (x y:Operand) (ho:o.op = .store 45 x y) (hx:a.eval x = .pointer (some ⟨b,4097,none⟩)) (hy:a.eval y = .agg #[.int .u8 k,.int .u8 m]) (h0:QB w b s bm)
  (h:∀w',QB w' b { s with ak:=k,am:=m } bm→Chg [b] w w'→wpList Tryz.prog ops Q rest (a.put o.dst undef) w'):wpList Tryz.prog ops Q (o :: rest) a w :=
 wpList_store_mid hg 45 x y ho b 4097 #[.int .u8 k,.int .u8 m] hx hy (fun j hj=>by
  have sH:j < 2:=hj
  refine ⟨?_,Blk.frozen h0 _⟩
  match j,sH with
  | 0,_=>rw [Nat.add_zero,(QB.all h0).1];rfl
  | 1,_=>rw [(QB.all h0).2];rfl) kv (by simp [show ∀k z,(Value.int k z).oneCell' = true from fun _ _=>rfl]) (h _ (QB.set_all h0 k m) (((av [b] w).setCell (p:=⟨b,4097,none⟩) (.inl (by simp)) _).setCell (p:=⟨b,4098,none⟩) (.inl (by simp)) _))
theorem eF {α:Type} (f:Int→α) (z:Int):upd f z (f z) = f:=by
 funext y;unfold upd;split
 ·rename_i h;rw [h]
 ·rfl
theorem WIn.same {w:World} {m:Nat} {M:Mo} {sp:Nat→Option Nat} {vo ve:Value} {L:List Ob} {E:List Nat} {gb gm:Nat→Nat} {gs:Nat→Sq} {n:Nat} {p:Pr} (hp:M.pr n = some p) (h:WIn w m { M with pr:=upd M.pr n (some p) } sp vo ve L E gb gm gs):WIn w m M sp vo ve L E gb gm gs:=by
 have e:upd M.pr n (some p) = M.pr:=by rw [← hp];exact eF _ _
 rw [e] at h;exact h
end
theorem fZ (h:WIn w m M sp vo ve L E gb gm gs) (kG:∀k,FW' M m vo ve L gb gm k→k < w.heap.size)
  {x:Cl} (hx:x.Ok) {n:Nat} (mK:x.p = n) {p:Pr} (hp:M.pr n = some p) (hk:x.k = 2) (v:Value) (hv:v.oneCell' = true) :
  Calls Tryz.prog 77 #[.pointer (some ⟨m,0,none⟩),.pointer (some ⟨gb n,0,none⟩),.agg (clc x v)] w fun e w'=>SpR w w' m M vo ve L E gb gm n (dc M x 0 p) e:=by
 obtain ⟨n1,n8⟩:=h.rng n p hp;have nQ:n < 9:=by omega
 have hR:dc M x 0 p = (bw 0,some { M with pr:=upd M.pr n none }):=by unfold dc;rw [ah hk,mK]
 rw [hR];clear hR;obtain ⟨W1,kP⟩:∃W1,W1 = w.alloc (.cells (clc x v) 47):=⟨_,rfl⟩;obtain ⟨W2,kJ⟩:∃W2,W2 = W1.alloc (.cells (rsc zRs zV) 40):=⟨_,rfl⟩;have c01:Chg [] w W1:=by rw [kP];exact (av [] w).alloc _
 have c12:Chg [] W1 W2:=by rw [kJ];exact (av [] W1).alloc _
 have lM:KB W2 w.heap.size x v:=bh (by rw [kP];exact ax w _ _) c12;have lW:XB W2 W1.heap.size zRs zV:=by rw [kJ];exact ax W1 _ _
 have e1:W1.heap.size = w.heap.size+1:=by rw [kP];exact af _ _
 obtain ⟨b3,lD⟩:∃y,y = w.heap.size:=⟨_,rfl⟩;obtain ⟨b6,mF⟩:∃y,y = W1.heap.size:=⟨_,rfl⟩;rw [← lD] at lM;rw [← mF] at lW;have HI:=bk (fun W (hc:Chg [] W2 W)=>h.stay ((c01.stay c12).stay hc));have mC:=bk (fun W (hc:Chg [] W2 W)=>(bh lM hc:KB W b3 x v));have lF:=bk (fun W (hc:Chg [] W2 W)=>(bf lW hc:XB W b6 zRs zV));have kS:=bk (c01.stay c12);have mH:=bk kP;have kW:=bk kJ;have HB:=bk (show b3 = w.heap.size∧b6 = w.heap.size+1 by omega);have lI:=bk lD;have lS:=bk mF;have kR:=bk kG;have HP:=bk hp;have HN:=bk (show 1≤n∧n < 9 by omega);have nT:=bk (ai hk mK);have oX:=bk hx;skip;clear h kG hx mK hp c01 c12 lM lW e1 lD mF kP kJ n1 n8 nQ hk;go_enter Tryz.func77,Tryz.ntmps77;go_upto_region 1 with (first|refine cc rfl _ rfl rfl ?_;try rw [← mH.out]|refine ck rfl rfl ?_;try rw [← kW.out])
 try rw [← lI.out,← lS.out]
 refine vc [0,1,0,1,0,0] ?_;have hS:Chg [] W2 W2.drew:=(av [] W2).drew;generalize W2.drew = W3 at hS ⊢;have HS:=bk hS;have hI:=HI.out W3 hS;obtain ⟨hq,mU,hrel⟩:=hI.pr n p HP.out;have oR:=bk hI;have HQ:=bk hq;have pE:=bk mU;have kX:=bk hrel;obtain ⟨r0,r1,-,r3,r4,r5,r6,r7,r8,r9,-,r11,rl,-⟩:=ay (mC.out W3 hS);rw [nT.out.1] at r0;rw [nT.out.2] at r1;have gl:=bb hq;have ml:=bb hI.blk;have qs:=WIn.sp_at hI HN.out.2;have xI:=Blk.frozen hI.blk (94+n);have i0:(0:Int)≤(n:Int):=by omega
 have i1:(n:Int) < 9:=by have:=HN.out;omega
 clear hS hI hq mU hrel;go_wp2_with (first|refine cdA fun K U=>?_|refine bn fun K U=>?_;go_simp|refine bq ?_);refine rgn7 [0,0,1,0,0,0,3] ?_;go_wp2_with (first|refine cdA fun K U=>?_|refine bn fun K U=>?_;go_simp|refine bq ?_);refine (ei 0 _).mono ?_;rintro e W5 ⟨rfl,kE⟩;have kU:=bk kE;have qJ:=bk (show Chg [m] W3 W5 from (((av [m] W3).setCell (p:=⟨m,94+n,none⟩) (.inl (by simp)) _).drew).stay kE);clear kE;go_wp2_with (first|refine bu (b:=b6) (x:=zRs) (v:=zV) (y:=bw 0) (u:=zV) rfl _ _ rfl rfl rfl rfl (aw (lF.out W3 HS.out) qJ.out (by have:=HB.out;have:=kR.out m (.inl rfl);simp;omega)) ?_;intro W6 h6 kF);refine bodyPost_ret (v:=.agg (rsc (bw 0) zV)) (results_cell_row (p:=6) (ty:=40) rfl _ _ b6 40 _ (0,0) _ rfl h6 Tryz.underlying40 rfl dq) rfl ?_;refine ⟨none,0,0,rfl,RE.nil ucl 1 _ none 0,fun _ hk=>(cw hk).elim,⟨upN sp n none,gs,?_⟩,?_⟩
 ·show WIn W6 m { M with pr:=upd M.pr n none } (upN sp n none) vo ve L E gb gm gs;exact ((((WIn.kill oR.out HN.out.2).stay (av [] _).drew).stay kU.out).new (B:=w.heap.size) (fun k hk=>kR.out k (hk.sub (nt HP.out none))) kF (fun y hy=>by obtain rfl:=aa hy;have:=HB.out;omega))
 ·exact (((kS.out.stay HS.out).up [m,gb n,gm n]).trans qJ.out (fun y hy=>.inl (by obtain rfl:=aa hy;simp))).trans kF (fun y hy=>.inr (by obtain rfl:=aa hy;have:=HB.out;omega))
theorem dT (h:WIn w m M sp vo ve L E gb gm gs) (kG:∀k,FW' M m vo ve L gb gm k→k < w.heap.size)
  {x:Cl} (hx:x.Ok) {n:Nat} (mK:x.p = n) {p:Pr} (hp:M.pr n = some p) (hk:x.k = 14) (v:Value) (hv:v.oneCell' = true) :
  Calls Tryz.prog 77 #[.pointer (some ⟨m,0,none⟩),.pointer (some ⟨gb n,0,none⟩),.agg (clc x v)] w fun e w'=>SpR w w' m M vo ve L E gb gm n (dc M x 0 p) e:=by
 obtain ⟨n1,n8⟩:=h.rng n p hp;have nQ:n < 9:=by omega
 have hR:dc M x 0 p = (bw 0,some { M with pr:=upd M.pr n (some { p with pk:=x.ok,pm:=x.om }) }):=by unfold dc;rw [ag (by omega),ah hk,mK]
 rw [hR];clear hR;obtain ⟨W1,kP⟩:∃W1,W1 = w.alloc (.cells (clc x v) 47):=⟨_,rfl⟩;obtain ⟨W2,kJ⟩:∃W2,W2 = W1.alloc (.cells (rsc zRs zV) 40):=⟨_,rfl⟩;have c01:Chg [] w W1:=by rw [kP];exact (av [] w).alloc _
 have c12:Chg [] W1 W2:=by rw [kJ];exact (av [] W1).alloc _
 have lM:KB W2 w.heap.size x v:=bh (by rw [kP];exact ax w _ _) c12;have lW:XB W2 W1.heap.size zRs zV:=by rw [kJ];exact ax W1 _ _
 have e1:W1.heap.size = w.heap.size+1:=by rw [kP];exact af _ _
 obtain ⟨b3,lD⟩:∃y,y = w.heap.size:=⟨_,rfl⟩;obtain ⟨b6,mF⟩:∃y,y = W1.heap.size:=⟨_,rfl⟩;rw [← lD] at lM;rw [← mF] at lW;have HI:=bk (fun W (hc:Chg [] W2 W)=>h.stay ((c01.stay c12).stay hc));have mC:=bk (fun W (hc:Chg [] W2 W)=>(bh lM hc:KB W b3 x v));have lF:=bk (fun W (hc:Chg [] W2 W)=>(bf lW hc:XB W b6 zRs zV));have kS:=bk (c01.stay c12);have mH:=bk kP;have kW:=bk kJ;have HB:=bk (show b3 = w.heap.size∧b6 = w.heap.size+1 by omega);have lI:=bk lD;have lS:=bk mF;have kR:=bk kG;have HP:=bk hp;have HN:=bk (show 1≤n∧n < 9 by omega);have nT:=bk (ai hk mK);have oX:=bk hx;skip;clear h kG hx mK hp c01 c12 lM lW e1 lD mF kP kJ n1 n8 nQ hk;go_enter Tryz.func77,Tryz.ntmps77;go_upto_region 1 with (first|refine cc rfl _ rfl rfl ?_;try rw [← mH.out]|refine ck rfl rfl ?_;try rw [← kW.out])
 try rw [← lI.out,← lS.out]
 refine vc [0,1,0,1,0,0] ?_;have hS:Chg [] W2 W2.drew:=(av [] W2).drew;generalize W2.drew = W3 at hS ⊢;have HS:=bk hS;have hI:=HI.out W3 hS;obtain ⟨hq,mU,hrel⟩:=hI.pr n p HP.out;have oR:=bk hI;have HQ:=bk hq;have pE:=bk mU;have kX:=bk hrel;obtain ⟨r0,r1,-,r3,r4,r5,r6,r7,r8,r9,-,r11,rl,-⟩:=ay (mC.out W3 hS);rw [nT.out.1] at r0;rw [nT.out.2] at r1;have gl:=bb hq;have ml:=bb hI.blk;have uF:=aL (mC.out W3 hS);clear hS hI hq mU hrel;go_wp2_with (first|refine em (ty:=45) (ad:=⟨b3,8,none⟩) (v:=.agg #[.int .u8 x.ok,.int .u8 x.om]) rfl _ rfl rfl ?_ ?_;(focus exact uF)|refine wg (b:=gb n) (k:=x.ok) (m:=x.om) rfl _ _ rfl rfl rfl HQ.out ?_;intro W4 h4 kZ;have H4:=bk h4;have lA:=bk kZ;clear h4 kZ|refine cdA fun K U=>?_|refine bn fun K U=>?_;go_simp|refine bq ?_);refine (ei 0 _).mono ?_;rintro e W5 ⟨rfl,kE⟩;have kU:=bk kE;have qJ:=bk (show Chg [gb n,gm n] W3 W5 from ((lA.out.mono (fun y hy=>.inl (by obtain rfl:=aa hy;simp))):Chg [gb n,gm n] W3 W4).stay kE);have vY:=bk (show WIn W5 m { M with pr:=upd M.pr n (some { p with pk:=x.ok,pm:=x.om }) } sp vo ve L E gb gm (upN gs n { gs n with ak:=x.ok,am:=x.om }) from (oR.out.put (p':={ p with pk:=x.ok,pm:=x.om }) HP.out (lA.out.mono (fun y hy=>.inl (by obtain rfl:=aa hy;simp))) H4.out (pE.out.chg lA.out (by simp;exact fun e=>bj HQ.out pE.out e.symm)) ⟨kX.out.rt,kX.out.by_,kX.out.b8,kX.out.ow,kX.out.po,rfl,rfl⟩).stay kE);clear kE;go_wp2_with (first|refine bu (b:=b6) (x:=zRs) (v:=zV) (y:=bw 0) (u:=zV) rfl _ _ rfl rfl rfl rfl (aw (lF.out W3 HS.out) qJ.out (by have h1:=HB.out;have h2:=kR.out (gb n) (.inr (.inr (.inr (.inr ⟨n,p,HP.out,.inl rfl⟩))));have h3:=kR.out (gm n) (.inr (.inr (.inr (.inr ⟨n,p,HP.out,.inr rfl⟩))));simp;omega)) ?_;intro W6 h6 kF);refine bodyPost_ret (v:=.agg (rsc (bw 0) zV)) (results_cell_row (p:=6) (ty:=40) rfl _ _ b6 40 _ (0,0) _ rfl h6 Tryz.underlying40 rfl dq) rfl ?_;refine ⟨none,0,0,rfl,RE.nil ucl 1 _ none 0,fun _ hk=>(cw hk).elim,⟨sp,(upN gs n { gs n with ak:=x.ok,am:=x.om }),?_⟩,?_⟩
 ·show WIn W6 m { M with pr:=upd M.pr n (some { p with pk:=x.ok,pm:=x.om }) } sp vo ve L E gb gm (upN gs n { gs n with ak:=x.ok,am:=x.om });exact (vY.out).new (B:=w.heap.size) (fun k hk=>kR.out k (hk.sub (nt HP.out _))) kF (fun y hy=>by obtain rfl:=aa hy;have:=HB.out;omega)
 ·exact (((kS.out.stay HS.out).up [m,gb n,gm n]).trans qJ.out (fun y hy=>.inl (by simp at hy;simp;omega))).trans kF (fun y hy=>.inr (by obtain rfl:=aa hy;have:=HB.out;omega))
theorem gB (h:WIn w m M sp vo ve L E gb gm gs) (kG:∀k,FW' M m vo ve L gb gm k→k < w.heap.size)
  {x:Cl} (hx:x.Ok) {n:Nat} (mK:x.p = n) {p:Pr} (hp:M.pr n = some p) (hs:Ar.Sp p.rl) (hk:x.k = 3) (hg:0≤x.g∧1≤x.c∧x.c≤1024∧x.g≤1024 - x.c) (hr:1≤x.r∧x.r≤3) (v:Value) (hv:v.oneCell' = true) :
  Calls Tryz.prog 77 #[.pointer (some ⟨m,0,none⟩),.pointer (some ⟨gb n,0,none⟩),.agg (clc x v)] w fun e w'=>SpR w w' m M vo ve L E gb gm n (dc M x 0 p) e:=by
 obtain ⟨n1,n8⟩:=h.rng n p hp;have nQ:n < 9:=by omega
 have hR:dc M x 0 p = (bw (db p x).1,some { M with pr:=upd M.pr n (some (db p x).2) }):=by unfold dc;rw [ag (by omega),ag (by omega),ag (by omega),ah (by omega),mK]
 rw [hR];clear hR;obtain ⟨E0,Ay⟩:∃e,e = (db p x).1:=⟨_,rfl⟩;obtain ⟨P0,AA⟩:∃q,q = (db p x).2:=⟨_,rfl⟩;rw [← Ay,← AA];obtain ⟨W1,kP⟩:∃W1,W1 = w.alloc (.cells (clc x v) 47):=⟨_,rfl⟩;obtain ⟨W2,kJ⟩:∃W2,W2 = W1.alloc (.cells (rsc zRs zV) 40):=⟨_,rfl⟩;have c01:Chg [] w W1:=by rw [kP];exact (av [] w).alloc _
 have c12:Chg [] W1 W2:=by rw [kJ];exact (av [] W1).alloc _
 have lM:KB W2 w.heap.size x v:=bh (by rw [kP];exact ax w _ _) c12;have lW:XB W2 W1.heap.size zRs zV:=by rw [kJ];exact ax W1 _ _
 have e1:W1.heap.size = w.heap.size+1:=by rw [kP];exact af _ _
 obtain ⟨b3,lD⟩:∃y,y = w.heap.size:=⟨_,rfl⟩;obtain ⟨b6,mF⟩:∃y,y = W1.heap.size:=⟨_,rfl⟩;rw [← lD] at lM;rw [← mF] at lW;have HI:=bk (fun W (hc:Chg [] W2 W)=>h.stay ((c01.stay c12).stay hc));have mC:=bk (fun W (hc:Chg [] W2 W)=>(bh lM hc:KB W b3 x v));have lF:=bk (fun W (hc:Chg [] W2 W)=>(bf lW hc:XB W b6 zRs zV));have kS:=bk (c01.stay c12);have mH:=bk kP;have kW:=bk kJ;have HB:=bk (show b3 = w.heap.size∧b6 = w.heap.size+1 by omega);have lI:=bk lD;have lS:=bk mF;have kR:=bk kG;have HP:=bk hp;have HN:=bk (show 1≤n∧n < 9 by omega);have nT:=bk (ai hk mK);have oX:=bk hx;have HG:=bk hg;have mS:=bk hs;have zW:=bk (ai Ay AA);have HV:=bk hv;have rG:=bk hr;clear h kG hx mK hp c01 c12 lM lW e1 lD mF kP kJ n1 n8 nQ hk hg hs Ay AA hr;go_enter Tryz.func77,Tryz.ntmps77;go_upto_region 1 with (first|refine cc rfl _ rfl rfl ?_;try rw [← mH.out]|refine ck rfl rfl ?_;try rw [← kW.out])
 try rw [← lI.out,← lS.out]
 refine vc [0,1,0,1,0,0] ?_;have hS:Chg [] W2 W2.drew:=(av [] W2).drew;generalize W2.drew = W3 at hS ⊢;have HS:=bk hS;have hI:=HI.out W3 hS;obtain ⟨hq,mU,hrel⟩:=hI.pr n p HP.out;have oR:=bk hI;have HQ:=bk hq;have pE:=bk mU;have kX:=bk hrel;obtain ⟨r0,r1,-,r3,r4,r5,r6,r7,r8,r9,-,r11,rl,-⟩:=ay (mC.out W3 hS);rw [nT.out.1] at r0;rw [nT.out.2] at r1;have gl:=bb hq;have ml:=bb hI.blk;skip;clear hS hI hq mU hrel;have oN:=bk (cO HQ.out pE.out kX.out mS.out nT.out.1 HG.out rG.out v HV.out);go_wp2_with (first|refine dk (b:=b3) (x:=x) (v:=v) rfl _ rfl rfl ?_ ?_;(focus exact mC.out W3 HS.out)|refine cdA fun K U=>?_|refine bn fun K U=>?_;go_simp|refine bq ?_);refine oN.out.mono ?_;rintro e W4 ⟨⟨rfl,s',h4,hm4,hr4⟩,kZ⟩;rw [← zW.out.1];rw [← zW.out.1,← zW.out.2] at hr4;have pT:=bk (oR.out.put HP.out kZ h4 hm4 hr4);have lA:=bk kZ;clear h4 hm4 hr4 kZ oN;go_wp2_with fail;refine (ei E0 _).mono ?_;rintro e W5 ⟨rfl,kE⟩;have kU:=bk kE;have qJ:=bk (show Chg [gb n,gm n] W3 W5 from lA.out.stay kE);clear kE;go_wp2_with (first|refine bu (b:=b6) (x:=zRs) (v:=zV) (y:=bw E0) (u:=zV) rfl _ _ rfl rfl rfl rfl (aw (lF.out W3 HS.out) qJ.out (by have h1:=HB.out;have h2:=kR.out (gb n) (.inr (.inr (.inr (.inr ⟨n,p,HP.out,.inl rfl⟩))));have h3:=kR.out (gm n) (.inr (.inr (.inr (.inr ⟨n,p,HP.out,.inr rfl⟩))));simp;omega)) ?_;intro W6 h6 kF);refine bodyPost_ret (v:=.agg (rsc (bw E0) zV)) (results_cell_row (p:=6) (ty:=40) rfl _ _ b6 40 _ (0,0) _ rfl h6 Tryz.underlying40 rfl dq) rfl ?_;by_cases h0:E0 = 0
 ·have vY:=bk (show WIn W5 m { M with pr:=upd M.pr n (some P0) } sp vo ve L E gb gm (upN gs n s') from by have h5:=pT.out.stay kU.out;rw [ah h0] at h5;exact h5);subst h0;refine ⟨none,0,0,rfl,RE.nil ucl 1 _ none 0,fun _ hk=>(cw hk).elim,⟨sp,(upN gs n s'),?_⟩,?_⟩
  ·show WIn W6 m { M with pr:=upd M.pr n (some P0) } sp vo ve L E gb gm (upN gs n s');exact (vY.out).new (B:=w.heap.size) (fun k hk=>kR.out k (hk.sub (nt HP.out _))) kF (fun y hy=>by obtain rfl:=aa hy;have:=HB.out;omega)
  ·exact (((kS.out.stay HS.out).up [m,gb n,gm n]).trans qJ.out (fun y hy=>.inl (by simp at hy;simp;omega))).trans kF (fun y hy=>.inr (by obtain rfl:=aa hy;have:=HB.out;omega))
 ·have vY:=bk (show WIn W5 m M sp vo ve L E gb gm (upN gs n s') from by have h5:=pT.out.stay kU.out;rw [ag h0] at h5;exact WIn.same HP.out h5);refine ⟨none,0,0,rfl,RE.nil ucl 1 _ none 0,fun _ hk=>(cw hk).elim,⟨sp,(upN gs n s'),?_⟩,?_⟩
  ·show WIn W6 m (if E0 = 0 then _ else M) sp vo ve L E gb gm (upN gs n s');rw [ag h0];exact (vY.out).new (B:=w.heap.size) (fun k hk=>kR.out k hk) kF (fun y hy=>by obtain rfl:=aa hy;have:=HB.out;omega)
  ·exact (((kS.out.stay HS.out).up [m,gb n,gm n]).trans qJ.out (fun y hy=>.inl (by simp at hy;simp;omega))).trans kF (fun y hy=>.inr (by obtain rfl:=aa hy;have:=HB.out;omega))
theorem gC (h:WIn w m M sp vo ve L E gb gm gs) (kG:∀k,FW' M m vo ve L gb gm k→k < w.heap.size)
  {x:Cl} (hx:x.Ok) {n:Nat} (mK:x.p = n) {p:Pr} (hp:M.pr n = some p) (hs:Ar.Sp p.rl) (hk:x.k = 4) (hg:0≤x.g∧1≤x.c∧x.c≤1024∧x.g≤1024 - x.c) (v:Value) (hv:v.oneCell' = true) :
  Calls Tryz.prog 77 #[.pointer (some ⟨m,0,none⟩),.pointer (some ⟨gb n,0,none⟩),.agg (clc x v)] w fun e w'=>SpR w w' m M vo ve L E gb gm n (dc M x 0 p) e:=by
 obtain ⟨n1,n8⟩:=h.rng n p hp;have nQ:n < 9:=by omega
 have hR:dc M x 0 p = (bw (db p x).1,some { M with pr:=upd M.pr n (some (db p x).2) }):=by unfold dc;rw [ag (by omega),ag (by omega),ag (by omega),ah (by omega),mK]
 rw [hR];clear hR;obtain ⟨E0,Ay⟩:∃e,e = (db p x).1:=⟨_,rfl⟩;obtain ⟨P0,AA⟩:∃q,q = (db p x).2:=⟨_,rfl⟩;rw [← Ay,← AA];obtain ⟨W1,kP⟩:∃W1,W1 = w.alloc (.cells (clc x v) 47):=⟨_,rfl⟩;obtain ⟨W2,kJ⟩:∃W2,W2 = W1.alloc (.cells (rsc zRs zV) 40):=⟨_,rfl⟩;have c01:Chg [] w W1:=by rw [kP];exact (av [] w).alloc _
 have c12:Chg [] W1 W2:=by rw [kJ];exact (av [] W1).alloc _
 have lM:KB W2 w.heap.size x v:=bh (by rw [kP];exact ax w _ _) c12;have lW:XB W2 W1.heap.size zRs zV:=by rw [kJ];exact ax W1 _ _
 have e1:W1.heap.size = w.heap.size+1:=by rw [kP];exact af _ _
 obtain ⟨b3,lD⟩:∃y,y = w.heap.size:=⟨_,rfl⟩;obtain ⟨b6,mF⟩:∃y,y = W1.heap.size:=⟨_,rfl⟩;rw [← lD] at lM;rw [← mF] at lW;have HI:=bk (fun W (hc:Chg [] W2 W)=>h.stay ((c01.stay c12).stay hc));have mC:=bk (fun W (hc:Chg [] W2 W)=>(bh lM hc:KB W b3 x v));have lF:=bk (fun W (hc:Chg [] W2 W)=>(bf lW hc:XB W b6 zRs zV));have kS:=bk (c01.stay c12);have mH:=bk kP;have kW:=bk kJ;have HB:=bk (show b3 = w.heap.size∧b6 = w.heap.size+1 by omega);have lI:=bk lD;have lS:=bk mF;have kR:=bk kG;have HP:=bk hp;have HN:=bk (show 1≤n∧n < 9 by omega);have nT:=bk (ai hk mK);have oX:=bk hx;have HG:=bk hg;have mS:=bk hs;have zW:=bk (ai Ay AA);have HV:=bk hv;clear h kG hx mK hp c01 c12 lM lW e1 lD mF kP kJ n1 n8 nQ hk hg hs Ay AA;go_enter Tryz.func77,Tryz.ntmps77;go_upto_region 1 with (first|refine cc rfl _ rfl rfl ?_;try rw [← mH.out]|refine ck rfl rfl ?_;try rw [← kW.out])
 try rw [← lI.out,← lS.out]
 refine vc [0,1,0,1,0,0] ?_;have hS:Chg [] W2 W2.drew:=(av [] W2).drew;generalize W2.drew = W3 at hS ⊢;have HS:=bk hS;have hI:=HI.out W3 hS;obtain ⟨hq,mU,hrel⟩:=hI.pr n p HP.out;have oR:=bk hI;have HQ:=bk hq;have pE:=bk mU;have kX:=bk hrel;obtain ⟨r0,r1,-,r3,r4,r5,r6,r7,r8,r9,-,r11,rl,-⟩:=ay (mC.out W3 hS);rw [nT.out.1] at r0;rw [nT.out.2] at r1;have gl:=bb hq;have ml:=bb hI.blk;skip;clear hS hI hq mU hrel;have oN:=bk (cP HQ.out pE.out kX.out mS.out nT.out.1 HG.out v HV.out);go_wp2_with (first|refine dk (b:=b3) (x:=x) (v:=v) rfl _ rfl rfl ?_ ?_;(focus exact mC.out W3 HS.out)|refine cdA fun K U=>?_|refine bn fun K U=>?_;go_simp|refine bq ?_);refine oN.out.mono ?_;rintro e W4 ⟨⟨rfl,s',h4,hm4,hr4⟩,kZ⟩;rw [← zW.out.1];rw [← zW.out.1,← zW.out.2] at hr4;have pT:=bk (oR.out.put HP.out kZ h4 hm4 hr4);have lA:=bk kZ;clear h4 hm4 hr4 kZ oN;go_wp2_with fail;refine (ei E0 _).mono ?_;rintro e W5 ⟨rfl,kE⟩;have kU:=bk kE;have qJ:=bk (show Chg [gb n,gm n] W3 W5 from lA.out.stay kE);clear kE;go_wp2_with (first|refine bu (b:=b6) (x:=zRs) (v:=zV) (y:=bw E0) (u:=zV) rfl _ _ rfl rfl rfl rfl (aw (lF.out W3 HS.out) qJ.out (by have h1:=HB.out;have h2:=kR.out (gb n) (.inr (.inr (.inr (.inr ⟨n,p,HP.out,.inl rfl⟩))));have h3:=kR.out (gm n) (.inr (.inr (.inr (.inr ⟨n,p,HP.out,.inr rfl⟩))));simp;omega)) ?_;intro W6 h6 kF);refine bodyPost_ret (v:=.agg (rsc (bw E0) zV)) (results_cell_row (p:=6) (ty:=40) rfl _ _ b6 40 _ (0,0) _ rfl h6 Tryz.underlying40 rfl dq) rfl ?_;by_cases h0:E0 = 0
 ·have vY:=bk (show WIn W5 m { M with pr:=upd M.pr n (some P0) } sp vo ve L E gb gm (upN gs n s') from by have h5:=pT.out.stay kU.out;rw [ah h0] at h5;exact h5);subst h0;refine ⟨none,0,0,rfl,RE.nil ucl 1 _ none 0,fun _ hk=>(cw hk).elim,⟨sp,(upN gs n s'),?_⟩,?_⟩
  ·show WIn W6 m { M with pr:=upd M.pr n (some P0) } sp vo ve L E gb gm (upN gs n s');exact (vY.out).new (B:=w.heap.size) (fun k hk=>kR.out k (hk.sub (nt HP.out _))) kF (fun y hy=>by obtain rfl:=aa hy;have:=HB.out;omega)
  ·exact (((kS.out.stay HS.out).up [m,gb n,gm n]).trans qJ.out (fun y hy=>.inl (by simp at hy;simp;omega))).trans kF (fun y hy=>.inr (by obtain rfl:=aa hy;have:=HB.out;omega))
 ·have vY:=bk (show WIn W5 m M sp vo ve L E gb gm (upN gs n s') from by have h5:=pT.out.stay kU.out;rw [ag h0] at h5;exact WIn.same HP.out h5);refine ⟨none,0,0,rfl,RE.nil ucl 1 _ none 0,fun _ hk=>(cw hk).elim,⟨sp,(upN gs n s'),?_⟩,?_⟩
  ·show WIn W6 m (if E0 = 0 then _ else M) sp vo ve L E gb gm (upN gs n s');rw [ag h0];exact (vY.out).new (B:=w.heap.size) (fun k hk=>kR.out k hk) kF (fun y hy=>by obtain rfl:=aa hy;have:=HB.out;omega)
  ·exact (((kS.out.stay HS.out).up [m,gb n,gm n]).trans qJ.out (fun y hy=>.inl (by simp at hy;simp;omega))).trans kF (fun y hy=>.inr (by obtain rfl:=aa hy;have:=HB.out;omega))
theorem gD (h:WIn w m M sp vo ve L E gb gm gs) (kG:∀k,FW' M m vo ve L gb gm k→k < w.heap.size)
  {x:Cl} (hx:x.Ok) {n:Nat} (mK:x.p = n) {p:Pr} (hp:M.pr n = some p) (hs:Ar.Sp p.rl) (hk:x.k = 5) (hg:0≤x.g∧1≤x.c∧x.c≤1024∧x.g≤1024 - x.c) (hr:1≤x.r∧x.r≤3) (v:Value) (hv:v.oneCell' = true) :
  Calls Tryz.prog 77 #[.pointer (some ⟨m,0,none⟩),.pointer (some ⟨gb n,0,none⟩),.agg (clc x v)] w fun e w'=>SpR w w' m M vo ve L E gb gm n (dc M x 0 p) e:=by
 obtain ⟨n1,n8⟩:=h.rng n p hp;have nQ:n < 9:=by omega
 have hR:dc M x 0 p = (bw (db p x).1,some { M with pr:=upd M.pr n (some (db p x).2) }):=by unfold dc;rw [ag (by omega),ag (by omega),ag (by omega),ah (by omega),mK]
 rw [hR];clear hR;obtain ⟨E0,Ay⟩:∃e,e = (db p x).1:=⟨_,rfl⟩;obtain ⟨P0,AA⟩:∃q,q = (db p x).2:=⟨_,rfl⟩;rw [← Ay,← AA];obtain ⟨W1,kP⟩:∃W1,W1 = w.alloc (.cells (clc x v) 47):=⟨_,rfl⟩;obtain ⟨W2,kJ⟩:∃W2,W2 = W1.alloc (.cells (rsc zRs zV) 40):=⟨_,rfl⟩;have c01:Chg [] w W1:=by rw [kP];exact (av [] w).alloc _
 have c12:Chg [] W1 W2:=by rw [kJ];exact (av [] W1).alloc _
 have lM:KB W2 w.heap.size x v:=bh (by rw [kP];exact ax w _ _) c12;have lW:XB W2 W1.heap.size zRs zV:=by rw [kJ];exact ax W1 _ _
 have e1:W1.heap.size = w.heap.size+1:=by rw [kP];exact af _ _
 obtain ⟨b3,lD⟩:∃y,y = w.heap.size:=⟨_,rfl⟩;obtain ⟨b6,mF⟩:∃y,y = W1.heap.size:=⟨_,rfl⟩;rw [← lD] at lM;rw [← mF] at lW;have HI:=bk (fun W (hc:Chg [] W2 W)=>h.stay ((c01.stay c12).stay hc));have mC:=bk (fun W (hc:Chg [] W2 W)=>(bh lM hc:KB W b3 x v));have lF:=bk (fun W (hc:Chg [] W2 W)=>(bf lW hc:XB W b6 zRs zV));have kS:=bk (c01.stay c12);have mH:=bk kP;have kW:=bk kJ;have HB:=bk (show b3 = w.heap.size∧b6 = w.heap.size+1 by omega);have lI:=bk lD;have lS:=bk mF;have kR:=bk kG;have HP:=bk hp;have HN:=bk (show 1≤n∧n < 9 by omega);have nT:=bk (ai hk mK);have oX:=bk hx;have HG:=bk hg;have mS:=bk hs;have zW:=bk (ai Ay AA);have HV:=bk hv;have rG:=bk hr;clear h kG hx mK hp c01 c12 lM lW e1 lD mF kP kJ n1 n8 nQ hk hg hs Ay AA hr;go_enter Tryz.func77,Tryz.ntmps77;go_upto_region 1 with (first|refine cc rfl _ rfl rfl ?_;try rw [← mH.out]|refine ck rfl rfl ?_;try rw [← kW.out])
 try rw [← lI.out,← lS.out]
 refine vc [0,1,0,1,0,0] ?_;have hS:Chg [] W2 W2.drew:=(av [] W2).drew;generalize W2.drew = W3 at hS ⊢;have HS:=bk hS;have hI:=HI.out W3 hS;obtain ⟨hq,mU,hrel⟩:=hI.pr n p HP.out;have oR:=bk hI;have HQ:=bk hq;have pE:=bk mU;have kX:=bk hrel;obtain ⟨r0,r1,-,r3,r4,r5,r6,r7,r8,r9,-,r11,rl,-⟩:=ay (mC.out W3 hS);rw [nT.out.1] at r0;rw [nT.out.2] at r1;have gl:=bb hq;have ml:=bb hI.blk;skip;clear hS hI hq mU hrel;have oN:=bk (cQ HQ.out pE.out kX.out mS.out nT.out.1 HG.out rG.out v HV.out);go_wp2_with (first|refine dk (b:=b3) (x:=x) (v:=v) rfl _ rfl rfl ?_ ?_;(focus exact mC.out W3 HS.out)|refine cdA fun K U=>?_|refine bn fun K U=>?_;go_simp|refine bq ?_);refine oN.out.mono ?_;rintro e W4 ⟨⟨rfl,s',h4,hm4,hr4⟩,kZ⟩;rw [← zW.out.1];rw [← zW.out.1,← zW.out.2] at hr4;have pT:=bk (oR.out.put HP.out kZ h4 hm4 hr4);have lA:=bk kZ;clear h4 hm4 hr4 kZ oN;go_wp2_with fail;refine (ei E0 _).mono ?_;rintro e W5 ⟨rfl,kE⟩;have kU:=bk kE;have qJ:=bk (show Chg [gb n,gm n] W3 W5 from lA.out.stay kE);clear kE;go_wp2_with (first|refine bu (b:=b6) (x:=zRs) (v:=zV) (y:=bw E0) (u:=zV) rfl _ _ rfl rfl rfl rfl (aw (lF.out W3 HS.out) qJ.out (by have h1:=HB.out;have h2:=kR.out (gb n) (.inr (.inr (.inr (.inr ⟨n,p,HP.out,.inl rfl⟩))));have h3:=kR.out (gm n) (.inr (.inr (.inr (.inr ⟨n,p,HP.out,.inr rfl⟩))));simp;omega)) ?_;intro W6 h6 kF);refine bodyPost_ret (v:=.agg (rsc (bw E0) zV)) (results_cell_row (p:=6) (ty:=40) rfl _ _ b6 40 _ (0,0) _ rfl h6 Tryz.underlying40 rfl dq) rfl ?_;by_cases h0:E0 = 0
 ·have vY:=bk (show WIn W5 m { M with pr:=upd M.pr n (some P0) } sp vo ve L E gb gm (upN gs n s') from by have h5:=pT.out.stay kU.out;rw [ah h0] at h5;exact h5);subst h0;refine ⟨none,0,0,rfl,RE.nil ucl 1 _ none 0,fun _ hk=>(cw hk).elim,⟨sp,(upN gs n s'),?_⟩,?_⟩
  ·show WIn W6 m { M with pr:=upd M.pr n (some P0) } sp vo ve L E gb gm (upN gs n s');exact (vY.out).new (B:=w.heap.size) (fun k hk=>kR.out k (hk.sub (nt HP.out _))) kF (fun y hy=>by obtain rfl:=aa hy;have:=HB.out;omega)
  ·exact (((kS.out.stay HS.out).up [m,gb n,gm n]).trans qJ.out (fun y hy=>.inl (by simp at hy;simp;omega))).trans kF (fun y hy=>.inr (by obtain rfl:=aa hy;have:=HB.out;omega))
 ·have vY:=bk (show WIn W5 m M sp vo ve L E gb gm (upN gs n s') from by have h5:=pT.out.stay kU.out;rw [ag h0] at h5;exact WIn.same HP.out h5);refine ⟨none,0,0,rfl,RE.nil ucl 1 _ none 0,fun _ hk=>(cw hk).elim,⟨sp,(upN gs n s'),?_⟩,?_⟩
  ·show WIn W6 m (if E0 = 0 then _ else M) sp vo ve L E gb gm (upN gs n s');rw [ag h0];exact (vY.out).new (B:=w.heap.size) (fun k hk=>kR.out k hk) kF (fun y hy=>by obtain rfl:=aa hy;have:=HB.out;omega)
  ·exact (((kS.out.stay HS.out).up [m,gb n,gm n]).trans qJ.out (fun y hy=>.inl (by simp at hy;simp;omega))).trans kF (fun y hy=>.inr (by obtain rfl:=aa hy;have:=HB.out;omega))
