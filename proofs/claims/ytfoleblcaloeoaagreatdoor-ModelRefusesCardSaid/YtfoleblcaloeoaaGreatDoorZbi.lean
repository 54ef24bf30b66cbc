/- Texts merged for the claim. -/
import Derived.Test.YtfoleblcaloeoaaGreatDoorZbh
set_option maxHeartbeats 40000000
set_option maxRecDepth 20000
namespace Go.Proofs.YtfoleblcaloeoaaGreatDoor
open Go Go.RowKit
open Ar (pg oq ij qk uf ws)
def ovr (f:Int→Int) (p j:Nat) (g:Int):Int→Int:=fun q=>if (p:Int)≤q∧q < ((p+j:Nat):Int) then g else f q
theorem wq (f:Int→Int) (p:Nat) (g:Int):ovr f p 0 g = f:=by funext q;unfold ovr;rw [if_neg (by omega)]
theorem bX {w:World} {b:Nat} {f:Int→Int} {p j:Nat} {g:Int} (h:PA w b (ovr f p j g)):PA (w.setCell ⟨b,p+j,none⟩ (.int .u8 g)) b (ovr f p (j+1) g):=by
 have:=Blk.set_ h (p+j) (.int .u8 g)
 rw [uf] at this
 rw [PA,qk (g:=fun q=>if q = ((p+j:Nat):Int) then g else ovr f p j g q) fun q _ _=>?_]
 ·exact this
 ·unfold ovr
  by_cases e:q = ((p+j:Nat):Int)
  ·rw [if_pos (by omega),if_pos e]
  ·rw [if_neg (c:=q = ((p+j:Nat):Int)) e]
   by_cases e2:(p:Int)≤q∧q < ((p+j:Nat):Int)
   ·rw [if_pos (by omega),if_pos e2]
   ·rw [if_neg (by omega),if_neg e2]
theorem ovr_two {w:World} {b:Nat} {f:Int→Int} {p j:Nat} {g g':Int} (h:PA w b (ovr f p j g)):PA ((w.setCell ⟨b,p+j,none⟩ (.int .u8 g')).setCell ⟨b,p+j,none⟩ (.int .u8 g)) b (ovr f p (j+1) g):=by
 have h1:=Blk.set_ (Blk.set_ h (p+j) (.int .u8 g')) (p+j) (.int .u8 g)
 rw [uf,uf] at h1
 rw [PA,qk (g:=fun q=>if q = ((p+j:Nat):Int) then g else if q = ((p+j:Nat):Int) then g' else ovr f p j g q) fun q _ _=>?_]
 ·exact h1
 ·unfold ovr
  by_cases e:q = ((p+j:Nat):Int)
  ·rw [if_pos (by omega),if_pos e]
  ·rw [if_neg (c:=q = ((p+j:Nat):Int)) e,if_neg (c:=q = ((p+j:Nat):Int)) e]
   by_cases e2:(p:Int)≤q∧q < ((p+j:Nat):Int)
   ·rw [if_pos (by omega),if_pos e2]
   ·rw [if_neg (by omega),if_neg e2]
theorem wo {p:Pr} {s:Sq} (hR:RelP p s) (hs:Ar.Sp p.rl) {pg_ c:Nat} {g:Int} (hc:1≤c) {q:Int} (h0:0≤q) (h1:q < 1024):ovr s.rt pg_ c g q = Ar.rt (Ar.withL p.rl pg_ c g) q:=by
 rw [(Ar.with_spec hs.nm (by omega) (by omega)).2]
 unfold ovr
 by_cases e:(pg_:Int)≤q∧q < ((pg_+c:Nat):Int)
 ·rw [if_pos e,if_pos (by omega)]
 ·rw [if_neg e,if_neg (by omega)]
  obtain ⟨n,rfl⟩:∃n:Nat,q = n:=⟨q.toNat,by omega⟩
  exact hR.rt n (by omega)
theorem aW {l:List Ar.Rn} (hs:Ar.Sp l) {pg_ c:Nat} {g:Int} (hc:1≤c) (hp:pg_+c≤1024) (q:Int):Ar.rt (Ar.withL l pg_ c g) q = if 0≤q∧q < 1024 then Ar.rt (Ar.withL l pg_ c g) q else 0:=by
 obtain ⟨w1,w2⟩:=Ar.with_spec (g:=g) hs.nm (page:=pg_) (count:=c) (by omega) (by omega)
 by_cases hq:0≤q∧q < 1024
 ·rw [if_pos hq]
 ·rw [if_neg hq]
  by_cases h1:q < 0
  ·exact Ar.rt_lo w1 h1
  ·rw [w2,if_neg (by omega)];exact hs.hi q (by omega)
theorem ch3 {p:Pr} {x:Cl} (h:x.k = 3):ch p x = (Ar.mapE p.rl x.g x.c x.r,{ p with rl:=Ar.mapR p.rl x.g x.c x.r }):=by unfold ch;rw [if_pos h]
theorem ch4 {p:Pr} {x:Cl} (h:x.k = 4):ch p x = (Ar.unE p.rl x.g x.c,{ p with rl:=Ar.unR p.rl x.g x.c,pg:=fun q=>if inR x.g x.c q then none else p.pg q,ow:=fun q=>if inR x.g x.c q then none else p.ow q }):=by unfold ch;rw [if_neg (by omega),if_pos h]
theorem ch5 {p:Pr} {x:Cl} (h:x.k = 5):ch p x = (Ar.prE p.rl x.g x.c x.r,{ p with rl:=Ar.prR p.rl x.g x.c x.r }):=by unfold ch;rw [if_neg (by omega),if_neg (by omega)]
theorem RelP.rights {p:Pr} {s:Sq} (h:RelP p s) (m:List Ar.Rn):RelP { p with rl:=m } { s with rt:=Ar.rt m }:=⟨fun _ _=>rfl,h.by_,h.b8,h.ow,h.po,h.ak,h.am⟩
def unS (s:Sq) (n j:Nat) (B:Int):Sq:={ s with by_:=fun a=>if 256 * (n:Int)≤a∧a < B then none else s.by_ a,ow:=fun q=>if n≤q∧q < n+j then false else s.ow q,po:=fun q=>if n≤q∧q < n+j then (0,0) else s.po q }
theorem cY (s:Sq) (n:Nat):unS s n 0 (256 * (n:Int)) = s:=by
 obtain ⟨a1,a2,a3,a4,a5,a6⟩:=s
 unfold unS
 simp only [Sq.mk.injEq,true_and,and_true]
 refine ⟨?_,?_,?_⟩
 ·funext a;rw [if_neg (by omega)]
 ·funext q;rw [if_neg (by omega)]
 ·funext q;rw [if_neg (by omega)]
theorem unS_step (s:Sq) (n j:Nat) (B:Int):({ ({ unS s n j B with ow:=upN (unS s n j B).ow (n+j) false }:Sq) with po:=upN (unS s n j B).po (n+j) (0,0) }:Sq) = unS s n (j+1) B:=by
 unfold unS
 simp only [Sq.mk.injEq,true_and,and_true]
 refine ⟨?_,?_⟩
 ·funext q
  unfold upN
  dsimp only
  by_cases e:q = n+j
  ·rw [if_pos e,if_pos (by omega)]
  ·rw [if_neg e]
   by_cases e2:n≤q∧q < n+j
   ·rw [if_pos e2,if_pos (by omega)]
   ·rw [if_neg e2,if_neg (by omega)]
 ·funext q
  unfold upN
  dsimp only
  by_cases e:q = n+j
  ·rw [if_pos e,if_pos (by omega)]
  ·rw [if_neg e]
   by_cases e2:n≤q∧q < n+j
   ·rw [if_pos e2,if_pos (by omega)]
   ·rw [if_neg e2,if_neg (by omega)]
theorem unS_by (s:Sq) (n j:Nat) {B:Int} (hB:256 * (n:Int)≤B):(fun y=>if y = B then none else byF (unS s n j B) y) = byF (unS s n j (B+1)):=by
 funext y
 unfold byF unS
 simp only
 by_cases e:y = B
 ·rw [if_pos e,if_pos (by omega)];rfl
 ·rw [if_neg e]
  by_cases e2:256 * (n:Int)≤y∧y < B
  ·rw [if_pos e2,if_pos (by omega)]
  ·rw [if_neg e2,if_neg (by omega)]
theorem RelP.un {p:Pr} {s:Sq} (h:RelP p s) (m:List Ar.Rn) {n c:Nat} (hc:n+c≤1024):RelP { p with rl:=m,pg:=fun q=>if inR n c q then none else p.pg q,ow:=fun q=>if inR n c q then none else p.ow q } (unS { s with rt:=Ar.rt m } n c (256 * ((n+c:Nat):Int))):=by
 refine ⟨fun _ _=>rfl,fun a h0 h1=>?_,fun a v hv=>?_,fun q hq=>?_,fun q hq v hv=>?_,h.ak,h.am⟩
 ·show ((if 256 * (n:Int)≤a∧a < 256 * ((n+c:Nat):Int) then none else s.by_ a:Option Nat)).getD 0 = (((if inR n c (a / 256) then none else p.pg (a / 256)):Option (List Nat)).getD zeroPg).getD (a % 256).toNat 0
  by_cases e:256 * (n:Int)≤a∧a < 256 * ((n+c:Nat):Int)
  ·rw [if_pos e,show inR n c (a / 256) = true from ae (by omega)]
   show 0 = zeroPg.getD (a % 256).toNat 0
   unfold zeroPg
   rw [List.getD_eq_getElem?_getD,List.getElem?_replicate]
   split <;> rfl
  ·rw [if_neg e,show inR n c (a / 256) = false from ac (by omega)]
   exact h.by_ a h0 h1
 ·have qV:(if 256 * (n:Int)≤a∧a < 256 * ((n+c:Nat):Int) then none else s.by_ a) = some v:=hv
  split at qV
  ·cases qV
  ·exact h.b8 a v qV
 ·show (if n≤q∧q < n+c then false else s.ow q) = ((if inR n c q then none else p.ow q:Option (Nat × Nat))).isSome
  by_cases e:n≤q∧q < n+c
  ·rw [if_pos e,show inR n c q = true from ae (by omega)];rfl
  ·rw [if_neg e,show inR n c q = false from ac (by omega)]
   exact h.ow q hq
 ·have qV:(if inR n c q then none else p.ow q:Option (Nat × Nat)) = some v:=hv
  show (if n≤q∧q < n+c then (0,0) else s.po q) = v
  by_cases e:n≤q∧q < n+c
  ·rw [show inR n c q = true from ae (by omega)] at qV;cases qV
  ·rw [show inR n c q = false from ac (by omega)] at qV
   rw [if_neg e]
   exact h.po q hq v qV
section
variable {ops:Array Oper} {rest:List Oper} {o:Oper} {a:Act} {w:World} {Q:Exit→Act→World→Prop} {b:Nat} {s:Sq} {bm i:Nat}
theorem xq {k m:Nat} (hg:o.guard = none) (x y:Operand) (ho:o.op = .store 45 x y) (hx:a.eval x = .pointer (some ⟨b,2049+i * 2,none⟩)) (hy:a.eval y = .agg #[.int .u8 k,.int .u8 m]) (h0:QB w b s bm) (hi:i < 1024)
  (h:∀w',QB w' b { s with po:=upN s.po i (k,m) } bm→Chg [b] w w'→wpList Tryz.prog ops Q rest (a.put o.dst undef) w'):wpList Tryz.prog ops Q (o :: rest) a w :=
 wpList_store_mid hg 45 x y ho b (2049+i * 2) #[.int .u8 k,.int .u8 m] hx hy (fun j hj=>by
  have sL:j < 2:=hj
  refine ⟨?_,Blk.frozen h0 _⟩
  match j,sL with
  | 0,_=>rw [Nat.add_zero,(QB.po h0 hi).1];rfl
  | 1,_=>rw [(QB.po h0 hi).2];rfl) kx (by simp [show ∀k z,(Value.int k z).oneCell' = true from fun _ _=>rfl]) (h _ (QB.set_po h0 hi k m) (((Chg.refl [b] w).setCell (p:=⟨b,2049+i * 2,none⟩) (.inl (by simp)) _).setCell (p:=⟨b,2049+i * 2+1,none⟩) (.inl (by simp)) _))
theorem yg {t kt et:TypeId} {q k:IntKind} {f:Int→Option Value} (hg:o.guard = none) (x y:Operand) (ho:o.op = .call { callee:=.builtin .delete,args:=#[x,y],argTypes:=#[t,kt] })
  (ht:Tryz.prog.underlying t = some (.map kt et)) (hk:Tryz.prog.underlying kt = some (.int q)) {key:Int} (hx:a.eval x = .map (some b)) (hy:a.eval y = .int k key) (h:MapB w b k f)
  (I:∀w',MapB w' b k (fun y=>if y = key then none else f y)→Chg [b] w w'→wpList Tryz.prog ops Q rest (a.put o.dst (.tuple #[])) w'):wpList Tryz.prog ops Q (o :: rest) a w :=
 wpList_plain hg fun _ kL=>nw x y ho ht hk hx hy h fun w' h1 h2=>kL _ _ (I w' h1 h2)
end
def ChR (w w':World) (b bm:Nat) (p:Pr) (x:Cl) (e:Ending):Prop :=
 e = .returned (.int .i64 (ch p x).1)∧∃s',QB w' b s' bm∧MapB w' bm .i64 (byF s')∧RelP (if (ch p x).1 = 0 then (ch p x).2 else p) s'
theorem bH {w:World} {b bm:Nat} {s:Sq} {p:Pr} (h:QB w b s bm) (hm:MapB w bm .i64 (byF s)) (hR:RelP p s) (hs:Ar.Sp p.rl) {x:Cl} (hk:x.k = 3) (hx:0≤x.g∧1≤x.c∧x.c≤1024∧x.g≤1024 - x.c) (hr:1≤x.r∧x.r≤3) (v:Value) (hv:v.oneCell' = true) :
  Calls Tryz.prog 107 #[.pointer (some ⟨b,0,none⟩),.agg (clc x v)] w fun e w'=>ChR w w' b bm p x e∧Chg [b,bm] w w':=by
 obtain ⟨n,hn⟩:∃n:Nat,x.g = n:=⟨x.g.toNat,by omega⟩
 obtain ⟨c,hc⟩:∃c:Nat,x.c = c:=⟨x.c.toNat,by omega⟩
 have xC:n+c≤1024:=by omega
 have jH:1≤c:=by omega
 obtain ⟨E,hE⟩:∃E,E = (ch p x).1:=⟨_,rfl⟩
 have wY:E = Ar.mapE p.rl n c x.r:=by rw [hE,ch3 hk,hn,hc]
 obtain ⟨W1,jG⟩:∃W1,W1 = w.alloc (.cells (clc x v) 47):=⟨_,rfl⟩
 have jS:KB W1 w.heap.size x v:=by rw [jG];exact Blk.new w _ _
 have mK:Chg [] w W1:=by rw [jG];exact (Chg.refl [] w).alloc _
 have pK:W1.heap.size = w.heap.size+1:=by rw [jG];exact af _ _
 have pB:=Blk.lt h
 have pL:=hm.lt
 have HQ:=ah (show QB W1 b s bm from Blk.chg h mK ab)
 have HM:=ah (hm.chg mK ab)
 have jY:=ah jS
 have pX:=ah mK
 have kW:=ah jG
 have jK:=ah (show W1.heap.size = w.heap.size+1∧b < w.heap.size∧bm < w.heap.size from ⟨pK,pB,pL⟩)
 have jQ:=ah hR
 have lI:=ah hs
 have mF:=ah (And.intro xC jH)
 have HE:=ah hE
 have vB:=ah wY
 have lJ:=ah (And.intro hk (And.intro hn hc))
 have pT:=ah hr
 have hwe:IntKind.i64.wrap ((n:Int)+(c:Int)) = (n:Int)+(c:Int):=by rw [IntKind.wrap_i64];omega
 clear h hm hR hs hE wY jG jS mK pK hk hx hn hc pB pL xC jH hr
 go_enter Tryz.func107,Tryz.ntmps107
 go_upto_region 2 with (first|refine ax rfl _ rfl rfl ?_;try rw [← kW.out]|refine ou (b:=b) (s:=s) (bm:=bm) rfl _ rfl rfl HQ.out ?_|refine nc rfl rfl ?_;intro W2 h2 jA;have H2:=ah h2;have jU:=ah jA;clear h2 jA|refine nh (b:=W1.heap.size) (f:=fun _=>0) (g:=s.rt) rfl _ _ rfl rfl rfl H2.out ?_;intro W3 h3 jD;have H3:=ah h3;have jE:=ah (show Chg [] W1 W3 from jU.out.trans jD (fun y hy=>.inr (by obtain rfl:=aa hy;exact Nat.le_refl _)));clear h3 jD)
 obtain ⟨ba,nL⟩:∃y,y = W1.heap.size:=⟨_,rfl⟩
 rw [← nL] at H3 ⊢
 have nU:=ah nL
 have tX:=ah (fun W (h:Chg [ba] W3 W)=>(Blk.chg (Blk.chg jY.out jE.out ab) h (by have:=nU.out;have:=jK.out;simp;omega):KB W w.heap.size x v))
 clear nL H2 jU
 obtain ⟨r0,r1,-,r3,r4,-,-,r7,-,-,-,-,rl,-⟩:=KB.cells (tX.out W3 (Chg.refl _ _))
 rw [lJ.out.1] at r0
 rw [lJ.out.2.1] at r3
 rw [lJ.out.2.2] at r4
 go_upto_region 3 with (fail)
 clear r0 r1 r3 r4 r7 rl
 go_loopw [6] (fun i wr=>∃j:Nat,j≤c∧i = .int .i64 ((n+j:Nat):Int)∧Hid (PA wr ba (ovr s.rt n j (x.r:Int)))∧Hid (Chg [ba] W3 wr)∧Hid (∀q:Nat,n≤q→q < n+j→s.rt q = 0)) (fun i _=>n+c - (intOf i).toNat)
 case atStart=>exact ⟨0,by omega,by simp,ah (by rw [wq];exact H3.out),ah (Chg.refl _ _),ah (fun q h1 h2=>by omega)⟩
 case round =>
  obtain ⟨j,hj,rfl,sA,jV,jX⟩:=hrel
  have tA:=ah sA.out
  have mZ:=ah jV.out
  have pF:=ah jX.out;clear jX
  obtain ⟨r0,r1,-,r3,r4,-,-,r7,-,-,-,-,rl,-⟩:=KB.cells (tX.out wr mZ.out)
  rw [lJ.out.1] at r0
  rw [lJ.out.2.1] at r3
  rw [lJ.out.2.2] at r4
  clear sA jV
  by_cases hjc:j < c
  ·have dl:decide (((n+j:Nat):Int) < (n:Int)+(c:Int)) = true:=ae (by omega)
   have i0:(0:Int)≤((n+j:Nat):Int):=by omega
   have i1:((n+j:Nat):Int) < 1024:=by have:=mF.out;omega
   have mS:IntKind.i64.wrap (((n+j:Nat):Int)+1) = ((n+j:Nat):Int)+1:=by rw [IntKind.wrap_i64];omega
   have BU:=PA.get tA.out (i:=n+j) (by have:=mF.out;omega)
   have vN:=Blk.frozen tA.out (n+j)
   have jO:¬ (w.heap.size = ba):=by have:=nU.out;have:=jK.out;omega
   have Gu:¬ (ba = w.heap.size):=fun e=>jO e.symm
   have hpl:=Blk.lt tA.out
   have uU:ovr s.rt n j (x.r:Int) ((n+j:Nat):Int) = s.rt ((n+j:Nat):Int):=by unfold ovr;rw [if_neg (by omega)]
   rw [uU] at BU
   obtain ⟨y,hy⟩:∃y,y = s.rt ((n+j:Nat):Int):=⟨_,rfl⟩
   rw [← hy] at BU
   have HY:=ah hy
   have wU:=ah hjc
   clear hy uU hj hjc
   by_cases tK:y = 0
   ·subst tK
    go_wp2_with fail
    go_roundw
    case rel=>exact ⟨j+1,by have:=wU.out;omega,by go_num,ah (bX tA.out),ah (mZ.out.setCell (p:=⟨ba,n+j,none⟩) (.inl (by simp)) _),ah (fun q h1 h2=>by by_cases e:q = n+j;(subst e;exact HY.out.symm);exact pF.out q h1 (by omega))⟩
    case measure=>have:=wU.out;simp [intOf];omega
   ·have ny:(y == 0) = false:=beq_false_of_ne tK
    have ny':(y != 0) = true:=by simp [tK]
    have HNY:=ah tK
    clear tK
    obtain rfl:E = 8:=by rw [vB.out];unfold Ar.mapE;rw [if_neg (by rintro (h | h);exact (show ¬ Ar.mayB (n:Int) (c:Int) = false by have:=mF.out;rw [Ar.mayB_iff.2 ⟨by omega,by omega,by omega,by omega⟩];decide) h;exact (show ¬ Ar.rgB (x.r:Int) = false by rw [Ar.rgB_iff.2 (by have:=pT.out;omega)];decide) h),if_pos ((Ar.cnt_pos lI.out.nm (by omega)).2 ⟨((n+j:Nat):Int),by omega,by have:=wU.out;omega,by rw [← jQ.out.rt (n+j) (by have:=wU.out;have:=mF.out;omega),← HY.out];exact HNY.out⟩)]
    go_wp2_with fail
    go_ret
    exact ⟨⟨by (have hh:=HE.out;rw [← hh];first | done | rfl),s,Blk.chg (Blk.chg HQ.out jE.out ab) mZ.out (by have:=nU.out;have:=jK.out;simp;omega),(HM.out.chg jE.out ab).chg mZ.out (by have:=nU.out;have:=jK.out;simp;omega),by rw [← HE.out,if_neg (by decide)];exact jQ.out⟩,((pX.out.stay jE.out).trans mZ.out (fun y hy=>.inr (by obtain rfl:=aa hy;have:=nU.out;have:=jK.out;omega))).up _⟩
  ·obtain rfl:j = c:=by omega
   have dl:decide (((n+j:Nat):Int) < (n:Int)+(j:Int)) = false:=ac (by omega)
   obtain ⟨m,hm⟩:∃m,m = Ar.withL p.rl n j (x.r:Int):=⟨_,rfl⟩
   have uV:PA wr ba (Ar.rt m):=by
    rw [PA,qk (g:=ovr s.rt n j (x.r:Int)) (fun q h1 h2=>by rw [hm];exact (wo jQ.out lI.out mF.out.2 h1 h2).symm)]
    exact tA.out
   have wC:=ah uV
   have nZ:=ah (fun W=>xa (w:=W) (f:=Ar.rt m) (l:=m) (by rw [hm];exact (Ar.with_spec lI.out.nm (by omega) (by have:=mF.out;omega)).1) (fun q=>by rw [hm];exact aW lI.out mF.out.2 mF.out.1 q))
   have wB:=ah hm
   obtain ⟨len,jN⟩:∃len,len = m.length:=⟨_,rfl⟩
   rw [← jN] at nZ
   have kI:=ah jN
   clear hjc hj hm uV jN
   go_wp2_with (first|refine jd (b:=ba) (f:=Ar.rt m) rfl _ rfl rfl ?_ ?_;(focus exact wC.out))
   refine (nZ.out _).mono ?_
   rintro e W5 ⟨rfl,U⟩
   have jL:=ah (show Chg [ba] W3 W5 from mZ.out.stay U)
   have xX:=ah (show PA W5 ba (Ar.rt m) from Blk.chg wC.out U ab)
   have wW:=ah (show QB W5 b s bm from Blk.chg (Blk.chg HQ.out jE.out ab) jL.out (by have:=nU.out;have:=jK.out;simp;omega))
   have rI:=ah ((HM.out.chg jE.out ab).chg jL.out (by have:=nU.out;have:=jK.out;simp;omega))
   have sS:=ah (show Chg [] w W5 from (pX.out.stay jE.out).trans jL.out (fun y hy=>.inr (by obtain rfl:=aa hy;have:=nU.out;have:=jK.out;omega)))
   clear U wC nZ r0 r1 r3 r4 r7 rl dl
   by_cases h32:32 < len
   ·have d32:decide (32 < (len:Int)) = true:=ae (by omega)
    have d32':decide (32 < len) = true:=ae h32
    obtain rfl:E = 9:=by rw [vB.out];have jZ:¬ 0 < Ar.cntL p.rl n j:=(fun hp=>by obtain ⟨q,a1,a2,a3⟩:=(Ar.cnt_pos lI.out.nm (by omega)).1 hp;obtain ⟨t,rfl⟩:∃t:Nat,q = t:=⟨q.toNat,by omega⟩;exact a3 (by rw [← jQ.out.rt t (by have:=mF.out;omega)];exact pF.out t (by omega) (by omega)));unfold Ar.mapE Ar.setE;rw [if_neg (by rintro (h | h);exact (show ¬ Ar.mayB (n:Int) (j:Int) = false by have:=mF.out;rw [Ar.mayB_iff.2 ⟨by omega,by omega,by omega,by omega⟩];decide) h;exact (show ¬ Ar.rgB (x.r:Int) = false by rw [Ar.rgB_iff.2 (by have:=pT.out;omega)];decide) h),if_neg jZ];rw [← wB.out,if_pos (by rw [← kI.out];exact h32)]
    clear h32
    go_wp2_with fail
    go_ret
    exact ⟨⟨by (have hh:=HE.out;rw [← hh];first | done | rfl),s,wW.out,rI.out,by rw [← HE.out,if_neg (by decide)];exact jQ.out⟩,sS.out.up _⟩
   ·have d32:decide (32 < (len:Int)) = false:=ac (by omega)
    have d32':decide (32 < len) = false:=ac h32
    obtain rfl:E = 0:=by rw [vB.out];have jZ:¬ 0 < Ar.cntL p.rl n j:=(fun hp=>by obtain ⟨q,a1,a2,a3⟩:=(Ar.cnt_pos lI.out.nm (by omega)).1 hp;obtain ⟨t,rfl⟩:∃t:Nat,q = t:=⟨q.toNat,by omega⟩;exact a3 (by rw [← jQ.out.rt t (by have:=mF.out;omega)];exact pF.out t (by omega) (by omega)));unfold Ar.mapE Ar.setE;rw [if_neg (by rintro (h | h);exact (show ¬ Ar.mayB (n:Int) (j:Int) = false by have:=mF.out;rw [Ar.mayB_iff.2 ⟨by omega,by omega,by omega,by omega⟩];decide) h;exact (show ¬ Ar.rgB (x.r:Int) = false by rw [Ar.rgB_iff.2 (by have:=pT.out;omega)];decide) h),if_neg jZ];rw [← wB.out,if_neg (by rw [← kI.out];exact h32)]
    have EL:=ah h32
    clear h32
    obtain ⟨r0,r1,-,r3,r4,-,-,r7,-,-,-,-,rl,-⟩:=KB.cells (tX.out W5 jL.out)
    rw [lJ.out.1] at r0
    rw [lJ.out.2.1] at r3
    rw [lJ.out.2.2] at r4
    clear r0 r1 r3 r4 r7 rl
    go_wp2_with (first|refine jd (b:=ba) (f:=Ar.rt m) rfl _ rfl rfl ?_ ?_;(focus exact xX.out)|refine ni (b:=b) (s:=s) (bm:=bm) (f:=Ar.rt m) rfl _ _ rfl rfl rfl wW.out ?_;intro W6 h6 iZ;have H6:=ah h6;have kR:=ah iZ;obtain ⟨r0,r1,-,r3,r4,-,-,r7,-,-,-,-,rl,-⟩:=KB.cells (show KB W6 w.heap.size x v from Blk.chg (tX.out W5 jL.out) iZ (by have:=jK.out;simp;omega));rw [lJ.out.1] at r0;rw [lJ.out.2.1] at r3;rw [lJ.out.2.2] at r4;clear h6 iZ)
    go_loopw [7] (fun _ wr=>wr = W6) (fun _ _=>0)
    case atStart=>exact rfl
    case round =>
     obtain rfl:=hrel
     go_wp2_with fail
     go_ret
     have AY:(ch p x).2 = { p with rl:=m }:=by
      rw [ch3 lJ.out.1,lJ.out.2.1,lJ.out.2.2]
      have e:Ar.mapR p.rl n j x.r = m:=by have jZ:¬ 0 < Ar.cntL p.rl n j:=(fun hp=>by obtain ⟨q,a1,a2,a3⟩:=(Ar.cnt_pos lI.out.nm (by omega)).1 hp;obtain ⟨t,rfl⟩:∃t:Nat,q = t:=⟨q.toNat,by omega⟩;exact a3 (by rw [← jQ.out.rt t (by have:=mF.out;omega)];exact pF.out t (by omega) (by omega)));unfold Ar.mapR Ar.setR;rw [if_neg (by rintro (h | h);exact (show ¬ Ar.mayB (n:Int) (j:Int) = false by have:=mF.out;rw [Ar.mayB_iff.2 ⟨by omega,by omega,by omega,by omega⟩];decide) h;exact (show ¬ Ar.rgB (x.r:Int) = false by rw [Ar.rgB_iff.2 (by have:=pT.out;omega)];decide) h),if_neg jZ,← wB.out,if_neg (by rw [← kI.out];exact EL.out)]
      rw [e]
     exact ⟨⟨by (have hh:=HE.out;rw [← hh];first | done | rfl),_,H6.out,by have:=rI.out.chg kR.out (fun hm=>by obtain rfl:=aa hm;exact Blk.ne_map wW.out rI.out rfl);exact this,by rw [← HE.out,if_pos rfl,AY];exact jQ.out.rights m⟩,(sS.out.up [b,bm]).trans kR.out (fun y hy=>.inl (by obtain rfl:=aa hy;simp))⟩
theorem bJ {w:World} {b bm:Nat} {s:Sq} {p:Pr} (h:QB w b s bm) (hm:MapB w bm .i64 (byF s)) (hR:RelP p s) (hs:Ar.Sp p.rl) {x:Cl} (hk:x.k = 5) (hx:0≤x.g∧1≤x.c∧x.c≤1024∧x.g≤1024 - x.c) (hr:1≤x.r∧x.r≤3) (v:Value) (hv:v.oneCell' = true) :
  Calls Tryz.prog 107 #[.pointer (some ⟨b,0,none⟩),.agg (clc x v)] w fun e w'=>ChR w w' b bm p x e∧Chg [b,bm] w w':=by
 obtain ⟨n,hn⟩:∃n:Nat,x.g = n:=⟨x.g.toNat,by omega⟩
 obtain ⟨c,hc⟩:∃c:Nat,x.c = c:=⟨x.c.toNat,by omega⟩
 have xC:n+c≤1024:=by omega
 have jH:1≤c:=by omega
 obtain ⟨E,hE⟩:∃E,E = (ch p x).1:=⟨_,rfl⟩
 have wY:E = Ar.prE p.rl n c x.r:=by rw [hE,ch5 hk,hn,hc]
 obtain ⟨W1,jG⟩:∃W1,W1 = w.alloc (.cells (clc x v) 47):=⟨_,rfl⟩
 have jS:KB W1 w.heap.size x v:=by rw [jG];exact Blk.new w _ _
 have mK:Chg [] w W1:=by rw [jG];exact (Chg.refl [] w).alloc _
 have pK:W1.heap.size = w.heap.size+1:=by rw [jG];exact af _ _
 have pB:=Blk.lt h
 have pL:=hm.lt
 have HQ:=ah (show QB W1 b s bm from Blk.chg h mK ab)
 have HM:=ah (hm.chg mK ab)
 have jY:=ah jS
 have pX:=ah mK
 have kW:=ah jG
 have jK:=ah (show W1.heap.size = w.heap.size+1∧b < w.heap.size∧bm < w.heap.size from ⟨pK,pB,pL⟩)
 have jQ:=ah hR
 have lI:=ah hs
 have mF:=ah (And.intro xC jH)
 have HE:=ah hE
 have vB:=ah wY
 have lJ:=ah (And.intro hk (And.intro hn hc))
 have pT:=ah hr
 have hwe:IntKind.i64.wrap ((n:Int)+(c:Int)) = (n:Int)+(c:Int):=by rw [IntKind.wrap_i64];omega
 clear h hm hR hs hE wY jG jS mK pK hk hx hn hc pB pL xC jH hr
 go_enter Tryz.func107,Tryz.ntmps107
 go_upto_region 2 with (first|refine ax rfl _ rfl rfl ?_;try rw [← kW.out]|refine ou (b:=b) (s:=s) (bm:=bm) rfl _ rfl rfl HQ.out ?_|refine nc rfl rfl ?_;intro W2 h2 jA;have H2:=ah h2;have jU:=ah jA;clear h2 jA|refine nh (b:=W1.heap.size) (f:=fun _=>0) (g:=s.rt) rfl _ _ rfl rfl rfl H2.out ?_;intro W3 h3 jD;have H3:=ah h3;have jE:=ah (show Chg [] W1 W3 from jU.out.trans jD (fun y hy=>.inr (by obtain rfl:=aa hy;exact Nat.le_refl _)));clear h3 jD)
 obtain ⟨ba,nL⟩:∃y,y = W1.heap.size:=⟨_,rfl⟩
 rw [← nL] at H3 ⊢
 have nU:=ah nL
 have tX:=ah (fun W (h:Chg [ba] W3 W)=>(Blk.chg (Blk.chg jY.out jE.out ab) h (by have:=nU.out;have:=jK.out;simp;omega):KB W w.heap.size x v))
 clear nL H2 jU
 obtain ⟨r0,r1,-,r3,r4,-,-,r7,-,-,-,-,rl,-⟩:=KB.cells (tX.out W3 (Chg.refl _ _))
 rw [lJ.out.1] at r0
 rw [lJ.out.2.1] at r3
 rw [lJ.out.2.2] at r4
 go_upto_region 3 with (fail)
 clear r0 r1 r3 r4 r7 rl
 go_loopw [6] (fun i wr=>∃j:Nat,j≤c∧i = .int .i64 ((n+j:Nat):Int)∧Hid (PA wr ba (ovr s.rt n j (x.r:Int)))∧Hid (Chg [ba] W3 wr)∧Hid (∀q:Nat,n≤q→q < n+j→s.rt q≠0)) (fun i _=>n+c - (intOf i).toNat)
 case atStart=>exact ⟨0,by omega,by simp,ah (by rw [wq];exact H3.out),ah (Chg.refl _ _),ah (fun q h1 h2=>by omega)⟩
 case round =>
  obtain ⟨j,hj,rfl,sA,jV,jX⟩:=hrel
  have tA:=ah sA.out
  have mZ:=ah jV.out
  have pF:=ah jX.out;clear jX
  obtain ⟨r0,r1,-,r3,r4,-,-,r7,-,-,-,-,rl,-⟩:=KB.cells (tX.out wr mZ.out)
  rw [lJ.out.1] at r0
  rw [lJ.out.2.1] at r3
  rw [lJ.out.2.2] at r4
  clear sA jV
  by_cases hjc:j < c
  ·have dl:decide (((n+j:Nat):Int) < (n:Int)+(c:Int)) = true:=ae (by omega)
   have i0:(0:Int)≤((n+j:Nat):Int):=by omega
   have i1:((n+j:Nat):Int) < 1024:=by have:=mF.out;omega
   have mS:IntKind.i64.wrap (((n+j:Nat):Int)+1) = ((n+j:Nat):Int)+1:=by rw [IntKind.wrap_i64];omega
   have BU:=PA.get tA.out (i:=n+j) (by have:=mF.out;omega)
   have vN:=Blk.frozen tA.out (n+j)
   have jO:¬ (w.heap.size = ba):=by have:=nU.out;have:=jK.out;omega
   have Gu:¬ (ba = w.heap.size):=fun e=>jO e.symm
   have hpl:=Blk.lt tA.out
   have uU:ovr s.rt n j (x.r:Int) ((n+j:Nat):Int) = s.rt ((n+j:Nat):Int):=by unfold ovr;rw [if_neg (by omega)]
   rw [uU] at BU
   obtain ⟨y,hy⟩:∃y,y = s.rt ((n+j:Nat):Int):=⟨_,rfl⟩
   rw [← hy] at BU
   have HY:=ah hy
   have wU:=ah hjc
   clear hy uU hj hjc
   by_cases tK:y = 0
   ·subst tK
    obtain rfl:E = 7:=by rw [vB.out];unfold Ar.prE Ar.mdE;rw [if_neg (show ¬ Ar.rgB (x.r:Int) = false by rw [Ar.rgB_iff.2 (by have:=pT.out;omega)];decide),if_neg (show ¬ Ar.mayB (n:Int) (c:Int) = false by have:=mF.out;rw [Ar.mayB_iff.2 ⟨by omega,by omega,by omega,by omega⟩];decide),if_pos ((Ar.cnt_lt lI.out.nm (by omega)).2 ⟨((n+j:Nat):Int),by omega,by have:=wU.out;omega,by rw [← jQ.out.rt (n+j) (by have:=wU.out;have:=mF.out;omega)];exact HY.out.symm⟩),if_pos (by decide)]
    go_wp2_with fail
    go_ret
    exact ⟨⟨by (have hh:=HE.out;rw [← hh];first | done | rfl),s,Blk.chg (Blk.chg HQ.out jE.out ab) mZ.out (by have:=nU.out;have:=jK.out;simp;omega),(HM.out.chg jE.out ab).chg mZ.out (by have:=nU.out;have:=jK.out;simp;omega),by rw [← HE.out,if_neg (by decide)];exact jQ.out⟩,((pX.out.stay jE.out).trans mZ.out (fun y hy=>.inr (by obtain rfl:=aa hy;have:=nU.out;have:=jK.out;omega))).up _⟩
   ·have ny:(y == 0) = false:=beq_false_of_ne tK
    have ny':(y != 0) = true:=by simp [tK]
    have HNY:=ah tK
    clear tK
    go_wp2_with fail
    go_roundw
    case rel=>exact ⟨j+1,by have:=wU.out;omega,by go_num,ah (bX tA.out),ah (mZ.out.setCell (p:=⟨ba,n+j,none⟩) (.inl (by simp)) _),ah (fun q h1 h2=>by by_cases e:q = n+j;(subst e;rw [← HY.out];exact HNY.out);exact pF.out q h1 (by omega))⟩
    case measure=>have:=wU.out;simp [intOf];omega
  ·obtain rfl:j = c:=by omega
   have dl:decide (((n+j:Nat):Int) < (n:Int)+(j:Int)) = false:=ac (by omega)
   obtain ⟨m,hm⟩:∃m,m = Ar.withL p.rl n j (x.r:Int):=⟨_,rfl⟩
   have uV:PA wr ba (Ar.rt m):=by
    rw [PA,qk (g:=ovr s.rt n j (x.r:Int)) (fun q h1 h2=>by rw [hm];exact (wo jQ.out lI.out mF.out.2 h1 h2).symm)]
    exact tA.out
   have wC:=ah uV
   have nZ:=ah (fun W=>xa (w:=W) (f:=Ar.rt m) (l:=m) (by rw [hm];exact (Ar.with_spec lI.out.nm (by omega) (by have:=mF.out;omega)).1) (fun q=>by rw [hm];exact aW lI.out mF.out.2 mF.out.1 q))
   have wB:=ah hm
   obtain ⟨len,jN⟩:∃len,len = m.length:=⟨_,rfl⟩
   rw [← jN] at nZ
   have kI:=ah jN
   clear hjc hj hm uV jN
   go_wp2_with (first|refine jd (b:=ba) (f:=Ar.rt m) rfl _ rfl rfl ?_ ?_;(focus exact wC.out))
   refine (nZ.out _).mono ?_
   rintro e W5 ⟨rfl,U⟩
   have jL:=ah (show Chg [ba] W3 W5 from mZ.out.stay U)
   have xX:=ah (show PA W5 ba (Ar.rt m) from Blk.chg wC.out U ab)
   have wW:=ah (show QB W5 b s bm from Blk.chg (Blk.chg HQ.out jE.out ab) jL.out (by have:=nU.out;have:=jK.out;simp;omega))
   have rI:=ah ((HM.out.chg jE.out ab).chg jL.out (by have:=nU.out;have:=jK.out;simp;omega))
   have sS:=ah (show Chg [] w W5 from (pX.out.stay jE.out).trans jL.out (fun y hy=>.inr (by obtain rfl:=aa hy;have:=nU.out;have:=jK.out;omega)))
   clear U wC nZ r0 r1 r3 r4 r7 rl dl
   by_cases h32:32 < len
   ·have d32:decide (32 < (len:Int)) = true:=ae (by omega)
    have d32':decide (32 < len) = true:=ae h32
    obtain rfl:E = 9:=by rw [vB.out];have jZ:¬ Ar.cntL p.rl n j < (j:Int):=(fun hp=>by obtain ⟨q,a1,a2,a3⟩:=(Ar.cnt_lt lI.out.nm (by omega)).1 hp;obtain ⟨t,rfl⟩:∃t:Nat,q = t:=⟨q.toNat,by omega⟩;exact pF.out t (by omega) (by omega) (by rw [jQ.out.rt t (by have:=mF.out;omega)];exact a3));unfold Ar.prE Ar.mdE Ar.setE;rw [if_neg (show ¬ Ar.rgB (x.r:Int) = false by rw [Ar.rgB_iff.2 (by have:=pT.out;omega)];decide),if_neg (show ¬ Ar.mayB (n:Int) (j:Int) = false by have:=mF.out;rw [Ar.mayB_iff.2 ⟨by omega,by omega,by omega,by omega⟩];decide),if_neg jZ,if_neg (by decide)];rw [← wB.out,if_pos (by rw [← kI.out];exact h32)]
    clear h32
    go_wp2_with fail
    go_ret
    exact ⟨⟨by (have hh:=HE.out;rw [← hh];first | done | rfl),s,wW.out,rI.out,by rw [← HE.out,if_neg (by decide)];exact jQ.out⟩,sS.out.up _⟩
   ·have d32:decide (32 < (len:Int)) = false:=ac (by omega)
    have d32':decide (32 < len) = false:=ac h32
    obtain rfl:E = 0:=by rw [vB.out];have jZ:¬ Ar.cntL p.rl n j < (j:Int):=(fun hp=>by obtain ⟨q,a1,a2,a3⟩:=(Ar.cnt_lt lI.out.nm (by omega)).1 hp;obtain ⟨t,rfl⟩:∃t:Nat,q = t:=⟨q.toNat,by omega⟩;exact pF.out t (by omega) (by omega) (by rw [jQ.out.rt t (by have:=mF.out;omega)];exact a3));unfold Ar.prE Ar.mdE Ar.setE;rw [if_neg (show ¬ Ar.rgB (x.r:Int) = false by rw [Ar.rgB_iff.2 (by have:=pT.out;omega)];decide),if_neg (show ¬ Ar.mayB (n:Int) (j:Int) = false by have:=mF.out;rw [Ar.mayB_iff.2 ⟨by omega,by omega,by omega,by omega⟩];decide),if_neg jZ,if_neg (by decide)];rw [← wB.out,if_neg (by rw [← kI.out];exact h32)]
    have EL:=ah h32
    clear h32
    obtain ⟨r0,r1,-,r3,r4,-,-,r7,-,-,-,-,rl,-⟩:=KB.cells (tX.out W5 jL.out)
    rw [lJ.out.1] at r0
    rw [lJ.out.2.1] at r3
    rw [lJ.out.2.2] at r4
    clear r0 r1 r3 r4 r7 rl
    go_wp2_with (first|refine jd (b:=ba) (f:=Ar.rt m) rfl _ rfl rfl ?_ ?_;(focus exact xX.out)|refine ni (b:=b) (s:=s) (bm:=bm) (f:=Ar.rt m) rfl _ _ rfl rfl rfl wW.out ?_;intro W6 h6 iZ;have H6:=ah h6;have kR:=ah iZ;obtain ⟨r0,r1,-,r3,r4,-,-,r7,-,-,-,-,rl,-⟩:=KB.cells (show KB W6 w.heap.size x v from Blk.chg (tX.out W5 jL.out) iZ (by have:=jK.out;simp;omega));rw [lJ.out.1] at r0;rw [lJ.out.2.1] at r3;rw [lJ.out.2.2] at r4;clear h6 iZ)
    go_loopw [7] (fun _ wr=>wr = W6) (fun _ _=>0)
    case atStart=>exact rfl
    case round =>
     obtain rfl:=hrel
     go_wp2_with fail
     go_ret
     have AY:(ch p x).2 = { p with rl:=m }:=by
      rw [ch5 lJ.out.1,lJ.out.2.1,lJ.out.2.2]
      have e:Ar.prR p.rl n j x.r = m:=by have jZ:¬ Ar.cntL p.rl n j < (j:Int):=(fun hp=>by obtain ⟨q,a1,a2,a3⟩:=(Ar.cnt_lt lI.out.nm (by omega)).1 hp;obtain ⟨t,rfl⟩:∃t:Nat,q = t:=⟨q.toNat,by omega⟩;exact pF.out t (by omega) (by omega) (by rw [jQ.out.rt t (by have:=mF.out;omega)];exact a3));unfold Ar.prR Ar.mdE Ar.setR;rw [if_neg (show ¬ Ar.rgB (x.r:Int) = false by rw [Ar.rgB_iff.2 (by have:=pT.out;omega)];decide),if_neg (show ¬ Ar.mayB (n:Int) (j:Int) = false by have:=mF.out;rw [Ar.mayB_iff.2 ⟨by omega,by omega,by omega,by omega⟩];decide),if_neg jZ,if_neg (by decide),← wB.out,if_neg (by rw [← kI.out];exact EL.out)]
      rw [e]
     exact ⟨⟨by (have hh:=HE.out;rw [← hh];first | done | rfl),_,H6.out,by have:=rI.out.chg kR.out (fun hm=>by obtain rfl:=aa hm;exact Blk.ne_map wW.out rI.out rfl);exact this,by rw [← HE.out,if_pos rfl,AY];exact jQ.out.rights m⟩,(sS.out.up [b,bm]).trans kR.out (fun y hy=>.inl (by obtain rfl:=aa hy;simp))⟩
theorem bI {w:World} {b bm:Nat} {s:Sq} {p:Pr} (h:QB w b s bm) (hm:MapB w bm .i64 (byF s)) (hR:RelP p s) (hs:Ar.Sp p.rl) {x:Cl} (hk:x.k = 4) (hx:0≤x.g∧1≤x.c∧x.c≤1024∧x.g≤1024 - x.c) (v:Value) (hv:v.oneCell' = true) :
  Calls Tryz.prog 107 #[.pointer (some ⟨b,0,none⟩),.agg (clc x v)] w fun e w'=>ChR w w' b bm p x e∧Chg [b,bm] w w':=by
 obtain ⟨n,hn⟩:∃n:Nat,x.g = n:=⟨x.g.toNat,by omega⟩
 obtain ⟨c,hc⟩:∃c:Nat,x.c = c:=⟨x.c.toNat,by omega⟩
 have xC:n+c≤1024:=by omega
 have jH:1≤c:=by omega
 obtain ⟨E,hE⟩:∃E,E = (ch p x).1:=⟨_,rfl⟩
 have wY:E = Ar.unE p.rl n c:=by rw [hE,ch4 hk,hn,hc]
 obtain ⟨W1,jG⟩:∃W1,W1 = w.alloc (.cells (clc x v) 47):=⟨_,rfl⟩
 have jS:KB W1 w.heap.size x v:=by rw [jG];exact Blk.new w _ _
 have mK:Chg [] w W1:=by rw [jG];exact (Chg.refl [] w).alloc _
 have pK:W1.heap.size = w.heap.size+1:=by rw [jG];exact af _ _
 have pB:=Blk.lt h
 have pL:=hm.lt
 have HQ:=ah (show QB W1 b s bm from Blk.chg h mK ab)
 have HM:=ah (hm.chg mK ab)
 have jY:=ah jS
 have pX:=ah mK
 have kW:=ah jG
 have jK:=ah (show W1.heap.size = w.heap.size+1∧b < w.heap.size∧bm < w.heap.size from ⟨pK,pB,pL⟩)
 have jQ:=ah hR
 have lI:=ah hs
 have mF:=ah (And.intro xC jH)
 have HE:=ah hE
 have vB:=ah wY
 have lJ:=ah (And.intro hk (And.intro hn hc))
 skip
 have hwe:IntKind.i64.wrap ((n:Int)+(c:Int)) = (n:Int)+(c:Int):=by rw [IntKind.wrap_i64];omega
 clear h hm hR hs hE wY jG jS mK pK hk hx hn hc pB pL xC jH
 go_enter Tryz.func107,Tryz.ntmps107
 go_upto_region 2 with (first|refine ax rfl _ rfl rfl ?_;try rw [← kW.out]|refine ou (b:=b) (s:=s) (bm:=bm) rfl _ rfl rfl HQ.out ?_|refine nc rfl rfl ?_;intro W2 h2 jA;have H2:=ah h2;have jU:=ah jA;clear h2 jA|refine nh (b:=W1.heap.size) (f:=fun _=>0) (g:=s.rt) rfl _ _ rfl rfl rfl H2.out ?_;intro W3 h3 jD;have H3:=ah h3;have jE:=ah (show Chg [] W1 W3 from jU.out.trans jD (fun y hy=>.inr (by obtain rfl:=aa hy;exact Nat.le_refl _)));clear h3 jD)
 obtain ⟨ba,nL⟩:∃y,y = W1.heap.size:=⟨_,rfl⟩
 rw [← nL] at H3 ⊢
 have nU:=ah nL
 have tX:=ah (fun W (h:Chg [ba] W3 W)=>(Blk.chg (Blk.chg jY.out jE.out ab) h (by have:=nU.out;have:=jK.out;simp;omega):KB W w.heap.size x v))
 clear nL H2 jU
 obtain ⟨r0,r1,-,r3,r4,-,-,r7,-,-,-,-,rl,-⟩:=KB.cells (tX.out W3 (Chg.refl _ _))
 rw [lJ.out.1] at r0
 rw [lJ.out.2.1] at r3
 rw [lJ.out.2.2] at r4
 go_upto_region 3 with (fail)
 clear r0 r1 r3 r4 r7 rl
 go_loopw [6] (fun i wr=>∃j:Nat,j≤c∧i = .int .i64 ((n+j:Nat):Int)∧Hid (PA wr ba (ovr s.rt n j 0))∧Hid (Chg [ba] W3 wr)) (fun i _=>n+c - (intOf i).toNat)
 case atStart=>exact ⟨0,by omega,by simp,ah (by rw [wq];exact H3.out),ah (Chg.refl _ _)⟩
 case round =>
  obtain ⟨j,hj,rfl,sA,jV⟩:=hrel
  have tA:=ah sA.out
  have mZ:=ah jV.out
  skip
  obtain ⟨r0,r1,-,r3,r4,-,-,r7,-,-,-,-,rl,-⟩:=KB.cells (tX.out wr mZ.out)
  rw [lJ.out.1] at r0
  rw [lJ.out.2.1] at r3
  rw [lJ.out.2.2] at r4
  clear sA jV
  by_cases hjc:j < c
  ·have dl:decide (((n+j:Nat):Int) < (n:Int)+(c:Int)) = true:=ae (by omega)
   have i0:(0:Int)≤((n+j:Nat):Int):=by omega
   have i1:((n+j:Nat):Int) < 1024:=by have:=mF.out;omega
   have mS:IntKind.i64.wrap (((n+j:Nat):Int)+1) = ((n+j:Nat):Int)+1:=by rw [IntKind.wrap_i64];omega
   have BU:=PA.get tA.out (i:=n+j) (by have:=mF.out;omega)
   have vN:=Blk.frozen tA.out (n+j)
   have jO:¬ (w.heap.size = ba):=by have:=nU.out;have:=jK.out;omega
   have Gu:¬ (ba = w.heap.size):=fun e=>jO e.symm
   have hpl:=Blk.lt tA.out
   have uU:ovr s.rt n j 0 ((n+j:Nat):Int) = s.rt ((n+j:Nat):Int):=by unfold ovr;rw [if_neg (by omega)]
   rw [uU] at BU
   obtain ⟨y,hy⟩:∃y,y = s.rt ((n+j:Nat):Int):=⟨_,rfl⟩
   rw [← hy] at BU
   have HY:=ah hy
   have wU:=ah hjc
   clear hy uU hj hjc
   go_wp2_with fail
   go_roundw
   case rel=>exact ⟨j+1,by have:=wU.out;omega,by go_num,ah (ovr_two tA.out),ah ((mZ.out.setCell (p:=⟨ba,n+j,none⟩) (.inl (by simp)) _).setCell (p:=⟨ba,n+j,none⟩) (.inl (by simp)) _)⟩
   case measure=>have:=wU.out;simp [intOf];omega
  ·obtain rfl:j = c:=by omega
   have dl:decide (((n+j:Nat):Int) < (n:Int)+(j:Int)) = false:=ac (by omega)
   obtain ⟨m,hm⟩:∃m,m = Ar.withL p.rl n j 0:=⟨_,rfl⟩
   have uV:PA wr ba (Ar.rt m):=by
    rw [PA,qk (g:=ovr s.rt n j 0) (fun q h1 h2=>by rw [hm];exact (wo jQ.out lI.out mF.out.2 h1 h2).symm)]
    exact tA.out
   have wC:=ah uV
   have nZ:=ah (fun W=>xa (w:=W) (f:=Ar.rt m) (l:=m) (by rw [hm];exact (Ar.with_spec lI.out.nm (by omega) (by have:=mF.out;omega)).1) (fun q=>by rw [hm];exact aW lI.out mF.out.2 mF.out.1 q))
   have wB:=ah hm
   obtain ⟨len,jN⟩:∃len,len = m.length:=⟨_,rfl⟩
   rw [← jN] at nZ
   have kI:=ah jN
   clear hjc hj hm uV jN
   go_wp2_with (first|refine jd (b:=ba) (f:=Ar.rt m) rfl _ rfl rfl ?_ ?_;(focus exact wC.out))
   refine (nZ.out _).mono ?_
   rintro e W5 ⟨rfl,U⟩
   have jL:=ah (show Chg [ba] W3 W5 from mZ.out.stay U)
   have xX:=ah (show PA W5 ba (Ar.rt m) from Blk.chg wC.out U ab)
   have wW:=ah (show QB W5 b s bm from Blk.chg (Blk.chg HQ.out jE.out ab) jL.out (by have:=nU.out;have:=jK.out;simp;omega))
   have rI:=ah ((HM.out.chg jE.out ab).chg jL.out (by have:=nU.out;have:=jK.out;simp;omega))
   have sS:=ah (show Chg [] w W5 from (pX.out.stay jE.out).trans jL.out (fun y hy=>.inr (by obtain rfl:=aa hy;have:=nU.out;have:=jK.out;omega)))
   clear U wC nZ r0 r1 r3 r4 r7 rl dl
   by_cases h32:32 < len
   ·have d32:decide (32 < (len:Int)) = true:=ae (by omega)
    have d32':decide (32 < len) = true:=ae h32
    obtain rfl:E = 9:=by rw [vB.out];unfold Ar.unE Ar.setE;rw [if_neg (show ¬ Ar.mayB (n:Int) (j:Int) = false by have:=mF.out;rw [Ar.mayB_iff.2 ⟨by omega,by omega,by omega,by omega⟩];decide)];rw [← wB.out,if_pos (by rw [← kI.out];exact h32)]
    clear h32
    go_wp2_with fail
    go_ret
    exact ⟨⟨by (have hh:=HE.out;rw [← hh];first | done | rfl),s,wW.out,rI.out,by rw [← HE.out,if_neg (by decide)];exact jQ.out⟩,sS.out.up _⟩
   ·have d32:decide (32 < (len:Int)) = false:=ac (by omega)
    have d32':decide (32 < len) = false:=ac h32
    obtain rfl:E = 0:=by rw [vB.out];unfold Ar.unE Ar.setE;rw [if_neg (show ¬ Ar.mayB (n:Int) (j:Int) = false by have:=mF.out;rw [Ar.mayB_iff.2 ⟨by omega,by omega,by omega,by omega⟩];decide)];rw [← wB.out,if_neg (by rw [← kI.out];exact h32)]
    have EL:=ah h32
    clear h32
    obtain ⟨r0,r1,-,r3,r4,-,-,r7,-,-,-,-,rl,-⟩:=KB.cells (tX.out W5 jL.out)
    clear r0 r1 r3 r4 r7 rl
    go_wp2_with (first|refine jd (b:=ba) (f:=Ar.rt m) rfl _ rfl rfl ?_ ?_;(focus exact xX.out)|refine ni (b:=b) (s:=s) (bm:=bm) (f:=Ar.rt m) rfl _ _ rfl rfl rfl wW.out ?_;intro W6 h6 iZ;have H6:=ah h6;have kR:=ah iZ;obtain ⟨r0,r1,-,r3,r4,-,-,r7,-,-,-,-,rl,-⟩:=KB.cells (show KB W6 w.heap.size x v from Blk.chg (tX.out W5 jL.out) iZ (by have:=jK.out;simp;omega));rw [lJ.out.1] at r0;rw [lJ.out.2.1] at r3;rw [lJ.out.2.2] at r4;clear h6 iZ)
    have Cy:=ah (fun W (h:Chg [b,bm] W6 W)=>(Blk.chg (Blk.chg (tX.out W5 jL.out) kR.out (by have:=jK.out;simp;omega)) h (by have:=jK.out;simp;omega):KB W w.heap.size x v))
    have AI:=ah (show MapB W6 bm .i64 (byF { s with rt:=Ar.rt m }) from rI.out.chg kR.out (fun hm=>by obtain rfl:=aa hm;exact Blk.ne_map wW.out rI.out rfl))
    have Aj:b≠bm:=Blk.ne_map wW.out rI.out
    have Ch:=ah Aj
    obtain ⟨s1,pC⟩:∃s1:Sq,s1 = { s with rt:=Ar.rt m }:=⟨_,rfl⟩
    rw [← pC] at H6 AI
    have HS1:=ah pC
    clear pC Aj r0 r1 r3 r4 r7 rl
    go_loopw [7] (fun i wr=>∃t:Nat,t≤j∧i = .int .i64 ((n+t:Nat):Int)∧Hid (QB wr b (unS s1 n t (256 * ((n+t:Nat):Int))) bm)∧Hid (MapB wr bm .i64 (byF (unS s1 n t (256 * ((n+t:Nat):Int)))))∧Hid (Chg [b,bm] W6 wr)) (fun i _=>n+j - (intOf i).toNat)
    case atStart=>exact ⟨0,by omega,by simp,ah (by rw [show ((n+0:Nat):Int) = (n:Int) by omega,cY];exact H6.out),ah (by rw [show ((n+0:Nat):Int) = (n:Int) by omega,cY];exact AI.out),ah (Chg.refl _ _)⟩
    case round =>
     obtain ⟨t,ht,rfl,hq,Dt,nI⟩:=hrel
     have xY:=ah hq.out
     have Ed:=ah Dt.out
     have nD:=ah nI.out
     obtain ⟨r0,r1,-,r3,r4,-,-,r7,-,-,-,-,rl,-⟩:=KB.cells (Cy.out _ nD.out)
     rw [lJ.out.1] at r0
     rw [lJ.out.2.1] at r3
     rw [lJ.out.2.2] at r4
     clear hq Dt nI
     by_cases htj:t < j
     ·have dl:decide (((n+t:Nat):Int) < (n:Int)+(j:Int)) = true:=ae (by omega)
      have i0:(0:Int)≤((n+t:Nat):Int):=by omega
      have i1:((n+t:Nat):Int) < 1024:=by have:=mF.out;omega
      have mS:IntKind.i64.wrap (((n+t:Nat):Int)+1) = ((n+t:Nat):Int)+1:=by rw [IntKind.wrap_i64];omega
      have hnt:n+t < 1024:=by have:=mF.out;omega
      have Ev:=QB.ow xY.out hnt
      have vN:=Blk.frozen xY.out (1025+(n+t))
      have Ex:=Blk.lt xY.out
      have HTJ:=ah htj
      have HNT:=ah hnt
      clear ht htj hnt
      go_wp2_with (first|refine xq (b:=b) (i:=n+t) (k:=0) (m:=0) rfl _ _ rfl rfl rfl (QB.set_ow xY.out HNT.out false) HNT.out ?_;intro W7 h7 jI;have H7:=ah h7;have qX:=ah jI;clear h7 jI)
      have HQ7:=ah (show QB W7 b (unS s1 n (t+1) (256 * ((n+t:Nat):Int))) bm by have:=H7.out;rw [← unS_step];exact this)
      have HC87:=ah (show Chg [b,bm] W6 W7 from (nD.out.trans ((Chg.refl [b] _).setCell (p:=⟨b,1025+(n+t),none⟩) (.inl (by simp)) _) (fun y hy=>.inl (by obtain rfl:=aa hy;simp))).trans qX.out (fun y hy=>.inl (by obtain rfl:=aa hy;simp)))
      have HM7:=ah (show MapB W7 bm .i64 (byF (unS s1 n (t+1) (256 * ((n+t:Nat):Int)))) from (Ed.out.chg ((Chg.refl [b] _).setCell (p:=⟨b,1025+(n+t),none⟩) (.inl (by simp)) _) (by simp;exact fun e=>Ch.out e.symm)).chg qX.out (by simp;exact fun e=>Ch.out e.symm))
      clear H7 qX xY Ed Ev vN Ex r0 r1 r3 r4 r7 rl
      go_loopw [8] (fun i wx=>∃u:Nat,u≤256∧i = .int .i64 u∧Hid (QB wx b (unS s1 n (t+1) (256 * ((n+t:Nat):Int)+u)) bm)∧Hid (MapB wx bm .i64 (byF (unS s1 n (t+1) (256 * ((n+t:Nat):Int)+u))))∧Hid (Chg [b,bm] W6 wx)) (fun i _=>256 - (intOf i).toNat)
      case atStart=>exact ⟨0,by omega,rfl,ah (by rw [show 256 * ((n+t:Nat):Int)+((0:Nat):Int) = 256 * ((n+t:Nat):Int) by omega];exact HQ7.out),ah (by rw [show 256 * ((n+t:Nat):Int)+((0:Nat):Int) = 256 * ((n+t:Nat):Int) by omega];exact HM7.out),HC87⟩
      case round =>
       obtain ⟨u,hu,rfl,hq,Dt,nI⟩:=hrel
       have xY:=ah hq.out
       have Ed:=ah Dt.out
       have nD:=ah nI.out
       clear hq Dt nI
       by_cases hut:u < 256
       ·have du:decide ((u:Int) < 256) = true:=ae (by omega)
        have du':decide (u < 256) = true:=ae hut
        have hwu:IntKind.i64.wrap ((u:Int)+1) = (u:Int)+1:=by rw [IntKind.wrap_i64];omega
        have HUT:=ah hut
        have rX:IntKind.i64.wrap (((n:Int)+(t:Int)) * 256) = ((n:Int)+(t:Int)) * 256:=by rw [IntKind.wrap_i64];omega
        have pJ:IntKind.i64.wrap (((n:Int)+(t:Int)) * 256+(u:Int)) = ((n:Int)+(t:Int)) * 256+(u:Int):=by rw [IntKind.wrap_i64];omega
        have hk3:wrap64 (((n:Int)+(t:Int)) * 256+(u:Int)) = ((n:Int)+(t:Int)) * 256+(u:Int):=(by have h1:=HUT.out;have h2:=HNT.out;unfold wrap64;omega)
        have hbmc:=QB.bmap xY.out
        have Ex:=Blk.lt xY.out
        clear hu hut
        go_wp2_with (first|refine yg (b:=bm) (key:=((n:Int)+(t:Int)) * 256+(u:Int)) rfl _ _ rfl Tryz.underlying96 Tryz.underlying3 rfl rfl Ed.out ?_;intro W8 h8 mP;have H8:=ah h8;have lL:=ah mP;clear h8 mP)
        clear rX pJ hk3
        go_roundw
        case rel =>
         have e1:((n:Int)+(t:Int)) * 256+(u:Int) = 256 * ((n+t:Nat):Int)+(u:Int):=by omega
         have e2:256 * ((n+t:Nat):Int)+((u+1:Nat):Int) = 256 * ((n+t:Nat):Int)+(u:Int)+1:=by omega
         refine ⟨u+1,by have:=HUT.out;omega,by go_num,ah ?_,ah ?_,ah (nD.out.trans lL.out (fun y hy=>.inl (by obtain rfl:=aa hy;simp)))⟩
         ·have hQ8:QB W8 b _ bm:=Blk.chg xY.out lL.out (by simp;exact Ch.out)
          exact hQ8
         ·have h8:=H8.out
          rw [e1,unS_by s1 n (t+1) (by omega)] at h8
          rw [e2]
          exact h8
        case measure=>have:=HUT.out;simp [intOf];omega
       ·obtain rfl:u = 256:=by omega
        have du:decide (((256:Nat):Int) < 256) = false:=by decide
        clear hut hu
        go_wp2_with fail
        go_roundw
        case rel =>
         have e1:256 * ((n+t:Nat):Int)+((256:Nat):Int) = 256 * ((n+(t+1):Nat):Int):=by omega
         refine ⟨t+1,by have:=HTJ.out;omega,by go_num,ah ?_,ah ?_,nD⟩
         ·rw [← e1];exact xY.out
         ·rw [← e1];exact Ed.out
        case measure=>have:=HTJ.out;simp [intOf];omega
     ·obtain rfl:t = j:=by omega
      have dl:decide (((n+t:Nat):Int) < (n:Int)+(t:Int)) = false:=ac (by omega)
      clear htj ht
      go_wp2_with fail
      go_ret
      have AY:(ch p x).2 = { p with rl:=m,pg:=fun q=>if inR n t q then none else p.pg q,ow:=fun q=>if inR n t q then none else p.ow q }:=by
       rw [ch4 lJ.out.1,lJ.out.2.1,lJ.out.2.2]
       have e:Ar.unR p.rl n t = m:=by unfold Ar.unR Ar.setR;rw [if_neg (show ¬ Ar.mayB (n:Int) (t:Int) = false by have:=mF.out;rw [Ar.mayB_iff.2 ⟨by omega,by omega,by omega,by omega⟩];decide),← wB.out,if_neg (by rw [← kI.out];exact EL.out)]
       rw [e]
      exact ⟨⟨by (have hh:=HE.out;rw [← hh];first | done | rfl),_,xY.out,Ed.out,by rw [← HE.out,if_pos rfl,AY,HS1.out];exact jQ.out.un m mF.out.1⟩,((sS.out.up [b,bm]).trans kR.out (fun y hy=>.inl (by obtain rfl:=aa hy;simp))).trans nD.out (fun y hy=>.inl hy)⟩
end Go.Proofs.YtfoleblcaloeoaaGreatDoor
