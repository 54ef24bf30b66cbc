import Derived.Test.YtfoleblcaloeoaaGreatDoorZad
set_option maxHeartbeats 40000000
set_option maxRecDepth 20000
namespace Go.Proofs.YtfoleblcaloeoaaGreatDoor
open Go Go.RowKit
def cI (c:Cf) (i:Nat):Prop:=((i:Int) < c 1→0≤c (2+i)∧c (2+i) < c 0)∧(c 1≤(i:Int)→c (2+i) = 0)
def FrP (c:Cf) (i:Nat):Prop:=((i:Int) < c 0→4≤c (18+i)∧c (18+i)≤128∧c 93≤c (18+i))∧(c 0≤(i:Int)→c (18+i) = 0)
def DP (c:Cf) (i k:Nat):Prop:=(c 0≤(i:Int)∨c 0≤(k:Int)∨i = k→c (26+i * 8+k) = 0)∧((i:Int) < c 0→(k:Int) < c 0→i≠k→1≤c (26+i * 8+k)∧c (26+i * 8+k)≤255∧c (26+i * 8+k) = c (26+k * 8+i))
theorem fA {c:Cf}:jx c↔((1≤c 0∧c 0≤8)∧(1≤c 1∧c 1≤16)∧(0≤c 90∧c 90≤1024))∧(∀i,i < 16→cI c i)∧(∀i,i < 8→FrP c i∧∀k,k < 8→DP c i k)∧0≤c 91∧c 91≤c 92∧c 92≤c 93:=by
 constructor
 ·intro h;exact ⟨⟨⟨h.n1,h.n8⟩,⟨h.p1,h.p16⟩,h.s0,h.s1⟩,fun i hi=>⟨h.home i hi,h.home0 i hi⟩,fun i hi=>⟨⟨h.fr i hi,h.fr0 i hi⟩,fun k hk=>⟨h.ds0 i k hi hk,h.ds1 i k hi hk⟩⟩,h.mi,h.lo,h.hi⟩
 ·rintro ⟨⟨⟨a1,a2⟩,⟨a3,a4⟩,a5,a6⟩,h1,h2,h3,h4,h5⟩;exact ⟨a1,a2,a3,a4,a5,a6,fun i hi=>(h1 i hi).1,fun i hi=>(h1 i hi).2,fun i hi=>(h2 i hi).1.1,fun i hi=>(h2 i hi).1.2,fun i k hi hk=>((h2 i hi).2 k hk).1,fun i k hi hk=>((h2 i hi).2 k hk).2,h3,h4,h5⟩
def MayR (c:Cf) (w:World) (e:Ending) (w':World):Prop:=∃r:Bool,e = .returned (.bool r)∧(r = true↔jx c)∧Chg [] w w'
theorem rmay_any (c:Cf) (w:World):Calls Tryz.prog 14 #[.agg (cg c)] w (MayR c w):=by
 have hb:=ax w 26 (cg c);have qR:w.heap.size < (w.alloc (.cells (cg c) 26)).heap.size:=by simp
 have q0:=je c (i:=0) (by omega);have q1:=je c (i:=1) (by omega);have q90:=je c (i:=90) (by omega);have HB:=bk hb;have HC:=bk (show Chg [] w (w.alloc (.cells (cg c) 26)) from (av [] w).alloc _);have HI:=bk (fA (c:=c));clear hb;by_cases h0:1≤c 0;rotate_left
 ·have HF:=bk (fun h:jx c=>h0 (HI.out.1 h).1.1.1);have d0:decide (c 0 < 1) = true:=ae (by omega);clear h0;go_enter Tryz.func14,Tryz.ntmps14;go_wp2_with (first|refine da rfl _ rfl rfl ?_);go_ret;exact ⟨false,rfl,⟨fun h=>(by cases h),fun h=>(HF.out h).elim⟩,HC.out⟩
 have d0:decide (c 0 < 1) = false:=ac (by omega);by_cases h1:c 0≤8;rotate_left
 ·have HF:=bk (fun h:jx c=>h1 (HI.out.1 h).1.1.2);have d1:decide (8 < c 0) = true:=ae (by omega);clear h1;go_enter Tryz.func14,Tryz.ntmps14;go_wp2_with (first|refine da rfl _ rfl rfl ?_);go_ret;exact ⟨false,rfl,⟨fun h=>(by cases h),fun h=>(HF.out h).elim⟩,HC.out⟩
 have d1:decide (8 < c 0) = false:=ac (by omega);by_cases h2:1≤c 1;rotate_left
 ·have HF:=bk (fun h:jx c=>h2 (HI.out.1 h).1.2.1.1);have d2:decide (c 1 < 1) = true:=ae (by omega);clear h2;go_enter Tryz.func14,Tryz.ntmps14;go_wp2_with (first|refine da rfl _ rfl rfl ?_);go_ret;exact ⟨false,rfl,⟨fun h=>(by cases h),fun h=>(HF.out h).elim⟩,HC.out⟩
 have d2:decide (c 1 < 1) = false:=ac (by omega);by_cases h3:c 1≤16;rotate_left
 ·have HF:=bk (fun h:jx c=>h3 (HI.out.1 h).1.2.1.2);have d3:decide (16 < c 1) = true:=ae (by omega);clear h3;go_enter Tryz.func14,Tryz.ntmps14;go_wp2_with (first|refine da rfl _ rfl rfl ?_);go_ret;exact ⟨false,rfl,⟨fun h=>(by cases h),fun h=>(HF.out h).elim⟩,HC.out⟩
 have d3:decide (16 < c 1) = false:=ac (by omega);by_cases h4:0≤c 90;rotate_left
 ·have HF:=bk (fun h:jx c=>h4 (HI.out.1 h).1.2.2.1);have d4:decide (c 90 < 0) = true:=ae (by omega);clear h4;go_enter Tryz.func14,Tryz.ntmps14;go_wp2_with (first|refine da rfl _ rfl rfl ?_);go_ret;exact ⟨false,rfl,⟨fun h=>(by cases h),fun h=>(HF.out h).elim⟩,HC.out⟩
 have d4:decide (c 90 < 0) = false:=ac (by omega);by_cases h5:c 90≤1024;rotate_left
 ·have HF:=bk (fun h:jx c=>h5 (HI.out.1 h).1.2.2.2);have d5:decide (1024 < c 90) = true:=ae (by omega);clear h5;go_enter Tryz.func14,Tryz.ntmps14;go_wp2_with (first|refine da rfl _ rfl rfl ?_);go_ret;exact ⟨false,rfl,⟨fun h=>(by cases h),fun h=>(HF.out h).elim⟩,HC.out⟩
 have d5:decide (1024 < c 90) = false:=ac (by omega);have HPRE:=bk (show (1≤c 0∧c 0≤8)∧(1≤c 1∧c 1≤16)∧(0≤c 90∧c 90≤1024) from ⟨⟨h0,h1⟩,⟨h2,h3⟩,h4,h5⟩);obtain ⟨n,hn⟩:∃n:Nat,c 0 = n:=⟨(c 0).toNat,by omega⟩;obtain ⟨p,hp⟩:∃p:Nat,c 1 = p:=⟨(c 1).toNat,by omega⟩;have HN:=bk hn;have HP:=bk hp;have n1:1≤n:=by omega
 have n8:n≤8:=by omega
 have p1:1≤p:=by omega
 have p16:p≤16:=by omega
 rw [hn] at q0 d0 d1;rw [hp] at q1 d2 d3;have nn:(n:Int)≤8:=by omega
 clear hn hp h0 h1 h2 h3 h4 h5;go_enter Tryz.func14,Tryz.ntmps14;go_wp2_with (first|refine da rfl _ rfl rfl ?_);have g0:=CB.get HB.out (i:=0) (by omega);have g1:=CB.get HB.out (i:=1) (by omega);rw [HN.out] at g0;rw [HP.out] at g1;have g91:=CB.get HB.out (i:=91) (by omega);have g92:=CB.get HB.out (i:=92) (by omega);have g93:=CB.get HB.out (i:=93) (by omega);clear q0 q1 q90 d0 d1 d2 d3 d4 d5;generalize w.alloc (.cells (cg c) 26) = W at g0 g1 g91 g92 g93 HB HC qR ⊢;generalize w.heap.size = b at g0 g1 g91 g92 g93 HB qR ⊢;go_loopw [3] (fun i wr=>Chg [] W wr∧∃k:Nat,k≤16∧i = .int .i64 k∧Hid (∀i:Nat,i < k→cI c i)) (fun i _=>16 - (intOf i).toNat)
 case atStart=>exact ⟨av _ _,0,by omega,rfl,bk (fun i hi=>by omega)⟩
 case round =>
  obtain ⟨lN,k,hk,rfl,HH⟩:=hrel;have sC:=bk (HB.out.chg lN ab);have oQ:=bk (HC.out.stay lN);have g0:=CB.get sC.out (i:=0) (by omega);have g1:=CB.get sC.out (i:=1) (by omega);rw [HN.out] at g0;rw [HP.out] at g1;have Ef:=sC.out.lt;by_cases hkt:k < 16
  ·have k1:(0:Int)≤(k:Int):=(by omega);have k2:(k:Int) < 16:=(by omega);have gx:=CB.get sC.out (i:=2+k) (by omega);obtain ⟨x,hx⟩:∃x,c (2+k) = x:=⟨_,rfl⟩;rw [hx] at gx;have HX:=bk hx;have qM:=bk (show cI c k↔((k < p→0≤x∧x < n)∧(p≤k→x = 0)) by
    unfold cI
    rw [hx,HP.out,HN.out]
    constructor
    ·rintro ⟨a,b⟩;exact ⟨fun h=>a (by omega),fun h=>b (by omega)⟩
    ·rintro ⟨a,b⟩;exact ⟨fun h=>a (by omega),fun h=>b (by omega)⟩)
   have oH:=bk (show ¬ cI c k→¬ jx c from fun h hM=>h ((HI.out.1 hM).2.1 k hkt));clear hx;by_cases hkp:k < p
   ·by_cases x0:x < 0
    ·have HF:=bk (oH.out (fun h=>by have:=(qM.out.1 h).1 hkp;omega));have d1:decide (x < 0) = true:=ae x0;go_wp2_with fail;refine rgt [0,0,1,0,0,0,0,0,1,0,0,0,0,0,1,0,1,0,0,0,0,0,0,1,0,0,0,0,0,1,0,0,0] [none,none,none,none,none,some (44,true),some (44,true),some (44,true),some (44,true),some (44,true),some (44,true),some (50,false),some (50,false),some (50,false),some (50,false),some (50,false),some (50,false),some (50,false),some (44,true),none,none,some (60,false),some (60,false),some (60,false),some (60,false),some (60,false),some (65,true),some (65,true),some (65,true),some (65,true),some (65,true),some (60,false),none] (fun _=>True) ?_;go_wp2_with (first|refine fj ?_ ?_;(focus (simp [gf,undef];done));go_simp|refine cdA fun K U=>?_|refine cx ?_;go_simp|refine cy ?_|refine bn fun K U=>?_;go_simp|refine bq ?_);go_ret;exact ⟨false,rfl,⟨fun h=>(by cases h),fun h=>(HF.out h).elim⟩,oQ.out.drew⟩
    ·have d1:decide (x < 0) = false:=ac x0;by_cases xn:x < (n:Int)
     ·have HT:=bk (qM.out.2 ⟨fun _=>⟨by omega,xn⟩,fun h=>by omega⟩);have d2:decide ((n:Int)≤x) = false:=ac (by omega);have d3:decide (p≤k) = false:=ac (by omega);clear x0 xn;go_wp2_with fail;refine rgt [0,0,1,0,0,0,0,0,1,0,0,0,0,0,1,0,1,0,0,0,0,0,0,1,0,0,0,0,0,1,0,0,0] [none,none,none,none,none,some (44,true),some (44,true),some (44,true),some (44,true),some (44,true),some (44,true),some (50,false),some (50,false),some (50,false),some (50,false),some (50,false),some (50,false),some (50,false),some (44,true),none,none,some (60,false),some (60,false),some (60,false),some (60,false),some (60,false),some (65,true),some (65,true),some (65,true),some (65,true),some (65,true),some (60,false),none] (fun _=>True) ?_;go_wp2_with (first|refine fj ?_ ?_;(focus (simp [gf,undef];done));go_simp|refine cdA fun K U=>?_|refine cx ?_;go_simp|refine cy ?_|refine bn fun K U=>?_;go_simp|refine bq ?_);go_roundw
      case rel=>exact ⟨lN.drew,k+1,by omega,by go_num,bk (fun i hi=>by
       by_cases e:i = k
       ·subst e;exact HT.out
       ·exact HH.out i (by omega))⟩
      case measure=>simp [intOf];omega
     ·have HF:=bk (oH.out (fun h=>by have:=(qM.out.1 h).1 hkp;omega));have d2:decide ((n:Int)≤x) = true:=ae (by omega);clear x0 xn;go_wp2_with fail;refine rgt [0,0,1,0,0,0,0,0,1,0,0,0,0,0,1,0,1,0,0,0,0,0,0,1,0,0,0,0,0,1,0,0,0] [none,none,none,none,none,some (44,true),some (44,true),some (44,true),some (44,true),some (44,true),some (44,true),some (50,false),some (50,false),some (50,false),some (50,false),some (50,false),some (50,false),some (50,false),some (44,true),none,none,some (60,false),some (60,false),some (60,false),some (60,false),some (60,false),some (65,true),some (65,true),some (65,true),some (65,true),some (65,true),some (60,false),none] (fun _=>True) ?_;go_wp2_with (first|refine fj ?_ ?_;(focus (simp [gf,undef];done));go_simp|refine cdA fun K U=>?_|refine cx ?_;go_simp|refine cy ?_|refine bn fun K U=>?_;go_simp|refine bq ?_);go_ret;exact ⟨false,rfl,⟨fun h=>(by cases h),fun h=>(HF.out h).elim⟩,oQ.out.drew⟩
   ·have d0:decide (p≤k) = true:=ae (by omega);by_cases x0:x = 0
    ·subst x0;have HT:=bk (qM.out.2 ⟨fun h=>by omega,fun h=>rfl⟩);go_wp2_with fail;refine rgt [0,0,1,0,0,0,0,0,1,0,0,0,0,0,1,0,1,0,0,0,0,0,0,1,0,0,0,0,0,1,0,0,0] [none,none,none,none,none,some (44,true),some (44,true),some (44,true),some (44,true),some (44,true),some (44,true),some (50,false),some (50,false),some (50,false),some (50,false),some (50,false),some (50,false),some (50,false),some (44,true),none,none,some (60,false),some (60,false),some (60,false),some (60,false),some (60,false),some (65,true),some (65,true),some (65,true),some (65,true),some (65,true),some (60,false),none] (fun _=>True) ?_;go_wp2_with (first|refine fj ?_ ?_;(focus (simp [gf,undef];done));go_simp|refine cdA fun K U=>?_|refine cx ?_;go_simp|refine cy ?_|refine bn fun K U=>?_;go_simp|refine bq ?_);go_roundw
     case rel=>exact ⟨lN.drew,k+1,by omega,by go_num,bk (fun i hi=>by
      by_cases e:i = k
      ·subst e;exact HT.out
      ·exact HH.out i (by omega))⟩
     case measure=>simp [intOf];omega
    ·have HF:=bk (oH.out (fun h=>x0 ((qM.out.1 h).2 (by omega))));have d1:(x != 0) = true:=(by simpa using x0);have d2:(x == 0) = false:=(by simpa using x0);go_wp2_with fail;refine rgt [0,0,1,0,0,0,0,0,1,0,0,0,0,0,1,0,1,0,0,0,0,0,0,1,0,0,0,0,0,1,0,0,0] [none,none,none,none,none,some (44,true),some (44,true),some (44,true),some (44,true),some (44,true),some (44,true),some (50,false),some (50,false),some (50,false),some (50,false),some (50,false),some (50,false),some (50,false),some (44,true),none,none,some (60,false),some (60,false),some (60,false),some (60,false),some (60,false),some (65,true),some (65,true),some (65,true),some (65,true),some (65,true),some (60,false),none] (fun _=>True) ?_;go_wp2_with (first|refine fj ?_ ?_;(focus (simp [gf,undef];done));go_simp|refine cdA fun K U=>?_|refine cx ?_;go_simp|refine cy ?_|refine bn fun K U=>?_;go_simp|refine bq ?_);go_ret;exact ⟨false,rfl,⟨fun h=>(by cases h),fun h=>(HF.out h).elim⟩,oQ.out.drew⟩
  ·obtain rfl:k = 16:=(by omega);go_wp2_with fail;go_loopw [4] (fun i wr=>Chg [] W wr∧∃k:Nat,k≤8∧i = .int .i64 k∧Hid (∀i:Nat,i < k→FrP c i∧∀j,j < 8→DP c i j)) (fun i _=>8 - (intOf i).toNat)
   case atStart=>exact ⟨lN,0,by omega,rfl,bk (fun i hi=>by omega)⟩
   case round =>
    clear lN sC oQ g0 g1 Ef;obtain ⟨lN,k,hk,rfl,HK⟩:=hrel;have sC:=bk (HB.out.chg lN ab);have oQ:=bk (HC.out.stay lN);have g0:=CB.get sC.out (i:=0) (by omega);rw [HN.out] at g0;have g93:=CB.get sC.out (i:=93) (by omega);have Ef:=sC.out.lt;by_cases hkt:k < 8
    ·have k1:(0:Int)≤(k:Int):=(by omega);have k2:(k:Int) < 8:=(by omega);have gx:=CB.get sC.out (i:=18+k) (by omega);obtain ⟨x,hx⟩:∃x,c (18+k) = x:=⟨_,rfl⟩;obtain ⟨z,hz⟩:∃z,c 93 = z:=⟨_,rfl⟩;rw [hx] at gx;rw [hz] at g93;have qM:=bk (show FrP c k↔((k < n→4≤x∧x≤128∧z≤x)∧(n≤k→x = 0)) by
      unfold FrP
      rw [hx,hz,HN.out]
      constructor
      ·rintro ⟨a,b⟩;exact ⟨fun h=>a (by omega),fun h=>b (by omega)⟩
      ·rintro ⟨a,b⟩;exact ⟨fun h=>a (by omega),fun h=>b (by omega)⟩)
     have oH:=bk (show ¬ FrP c k→¬ jx c from fun h hM=>h ((HI.out.1 hM).2.2.1 k hkt).1);clear hx hz;by_cases sU:k < n
     ·by_cases x1:x < 4
      ·have HF:=bk (oH.out (fun h=>by have:=(qM.out.1 h).1 sU;omega));have t1:decide (x < 4) = true:=ae x1;go_wp2_with fail;refine rgt [0,0,0,0,0,1,0,0,0,0,0,1,0,0,0,0,0,0,1,0,1,0,0,0,0,0,0,0,0,0,0,1,0,0,0] [none,none,some (82,true),some (82,true),some (82,true),some (82,true),some (82,true),some (82,true),some (88,false),some (88,false),some (88,false),some (88,false),some (88,false),some (82,true),some (82,true),some (95,false),some (95,false),some (95,false),some (95,false),some (95,false),some (95,false),some (95,false),some (82,true),none,none,some (105,false),some (105,false),some (105,false),some (108,true),some (108,true),some (108,true),some (108,true),some (108,true),some (105,false),none] (fun _=>True) ?_;go_wp2_with (first|refine fj ?_ ?_;(focus (simp [gf,undef];done));go_simp|refine cdA fun K U=>?_|refine cx ?_;go_simp|refine cy ?_|refine bn fun K U=>?_;go_simp|refine bq ?_);go_ret;exact ⟨false,rfl,⟨fun h=>(by cases h),fun h=>(HF.out h).elim⟩,oQ.out.drew⟩
      ·have t1:decide (x < 4) = false:=ac x1;by_cases x2:128 < x
       ·have HF:=bk (oH.out (fun h=>by have:=(qM.out.1 h).1 sU;omega));have t2:decide (128 < x) = true:=ae x2;clear x1;go_wp2_with fail;refine rgt [0,0,0,0,0,1,0,0,0,0,0,1,0,0,0,0,0,0,1,0,1,0,0,0,0,0,0,0,0,0,0,1,0,0,0] [none,none,some (82,true),some (82,true),some (82,true),some (82,true),some (82,true),some (82,true),some (88,false),some (88,false),some (88,false),some (88,false),some (88,false),some (82,true),some (82,true),some (95,false),some (95,false),some (95,false),some (95,false),some (95,false),some (95,false),some (95,false),some (82,true),none,none,some (105,false),some (105,false),some (105,false),some (108,true),some (108,true),some (108,true),some (108,true),some (108,true),some (105,false),none] (fun _=>True) ?_;go_wp2_with (first|refine fj ?_ ?_;(focus (simp [gf,undef];done));go_simp|refine cdA fun K U=>?_|refine cx ?_;go_simp|refine cy ?_|refine bn fun K U=>?_;go_simp|refine bq ?_);go_ret;exact ⟨false,rfl,⟨fun h=>(by cases h),fun h=>(HF.out h).elim⟩,oQ.out.drew⟩
       ·have t2:decide (128 < x) = false:=ac x2;by_cases x3:x < z
        ·have HF:=bk (oH.out (fun h=>by have:=(qM.out.1 h).1 sU;omega));have t3:decide (x < z) = true:=ae x3;clear x1 x2;go_wp2_with fail;refine rgt [0,0,0,0,0,1,0,0,0,0,0,1,0,0,0,0,0,0,1,0,1,0,0,0,0,0,0,0,0,0,0,1,0,0,0] [none,none,some (82,true),some (82,true),some (82,true),some (82,true),some (82,true),some (82,true),some (88,false),some (88,false),some (88,false),some (88,false),some (88,false),some (82,true),some (82,true),some (95,false),some (95,false),some (95,false),some (95,false),some (95,false),some (95,false),some (95,false),some (82,true),none,none,some (105,false),some (105,false),some (105,false),some (108,true),some (108,true),some (108,true),some (108,true),some (108,true),some (105,false),none] (fun _=>True) ?_;go_wp2_with (first|refine fj ?_ ?_;(focus (simp [gf,undef];done));go_simp|refine cdA fun K U=>?_|refine cx ?_;go_simp|refine cy ?_|refine bn fun K U=>?_;go_simp|refine bq ?_);go_ret;exact ⟨false,rfl,⟨fun h=>(by cases h),fun h=>(HF.out h).elim⟩,oQ.out.drew⟩
        ·have t3:decide (x < z) = false:=ac x3;have HTF:=bk (qM.out.2 ⟨fun _=>⟨by omega,by omega,by omega⟩,fun h=>by omega⟩);clear x1 x2 x3;go_wp2_with fail;refine rgt [0,0,0,0,0,1,0,0,0,0,0,1,0,0,0,0,0,0,1,0,1,0,0,0,0,0,0,0,0,0,0,1,0,0,0] [none,none,some (82,true),some (82,true),some (82,true),some (82,true),some (82,true),some (82,true),some (88,false),some (88,false),some (88,false),some (88,false),some (88,false),some (82,true),some (82,true),some (95,false),some (95,false),some (95,false),some (95,false),some (95,false),some (95,false),some (95,false),some (82,true),none,none,some (105,false),some (105,false),some (105,false),some (108,true),some (108,true),some (108,true),some (108,true),some (108,true),some (105,false),none] (fun _=>True) ?_;go_wp2_with (first|refine fj ?_ ?_;(focus (simp [gf,undef];done));go_simp|refine cdA fun K U=>?_|refine cx ?_;go_simp|refine cy ?_|refine bn fun K U=>?_;go_simp|refine bq ?_);clear qM oH t1 t2 t3 gx g93;go_loopw [6] (fun i wr'=>Chg [] W wr'∧∃j:Nat,j≤8∧i = .int .i64 j∧Hid (∀i:Nat,i < j→DP c k i)) (fun i _=>8 - (intOf i).toNat)
         case atStart=>exact ⟨lN.drew,0,by omega,rfl,bk (fun i hi=>by omega)⟩
         case round =>
          obtain ⟨oJ,j,hj,rfl,HJ⟩:=hrel;have sC:=bk (HB.out.chg oJ ab);have oQ:=bk (HC.out.stay oJ);have g0:=CB.get sC.out (i:=0) (by omega);rw [HN.out] at g0;have Ef:=sC.out.lt;by_cases hjt:j < 8
          ·have j1:(0:Int)≤(j:Int):=(by omega);have j2:(j:Int) < 8:=(by omega);have e1:=CB.get sC.out (i:=26+k * 8+j) (by omega);have e2:=CB.get sC.out (i:=26+j * 8+k) (by omega);obtain ⟨x,hx⟩:∃x,c (26+k * 8+j) = x:=⟨_,rfl⟩;obtain ⟨y,hy⟩:∃y,c (26+j * 8+k) = y:=⟨_,rfl⟩;rw [hx] at e1;rw [hy] at e2;have qM:=bk (show DP c k j↔((n≤k∨n≤j∨k = j→x = 0)∧(k < n→j < n→k≠j→1≤x∧x≤255∧x = y)) by
            unfold DP
            rw [hx,hy,HN.out]
            constructor
            ·rintro ⟨a,b⟩;exact ⟨fun h=>a (by omega),fun h1 h2 h3=>b (by omega) (by omega) h3⟩
            ·rintro ⟨a,b⟩;exact ⟨fun h=>a (by omega),fun h1 h2 h3=>b (by omega) (by omega) h3⟩)
           have oH:=bk (show ¬ DP c k j→¬ jx c from fun h hM=>h (((HI.out.1 hM).2.2.1 k hkt).2 j hjt));clear hx hy;by_cases hjn:j < n
           ·by_cases qY:k = j
            ·have v1:(k == j) = true:=(by simpa using qY);have v2:((k:Int) == (j:Int)) = true:=(by simp;omega);have v3:((k:Int) != (j:Int)) = false:=(by simp;omega);have HKJ:=bk qY;clear qY;by_cases x0:x = 0
             ·subst x0;have HT:=bk (qM.out.2 ⟨fun _=>rfl,fun h1 h2 h3=>absurd HKJ.out h3⟩);go_wp2_with fail;go_roundw
              case rel=>exact ⟨oJ,j+1,by omega,by go_num,bk (fun i hi=>by
               by_cases e:i = j
               ·subst e;exact HT.out
               ·exact HJ.out i (by omega))⟩
              case measure=>simp [intOf];omega
             ·have HF:=bk (oH.out (fun h=>x0 ((qM.out.1 h).1 (.inr (.inr HKJ.out)))));have t1:(x != 0) = true:=(by simpa using x0);have t2:(x == 0) = false:=(by simpa using x0);go_wp2_with fail;go_ret;exact ⟨false,rfl,⟨fun h=>(by cases h),fun h=>(HF.out h).elim⟩,oQ.out⟩
            ·have v1:(k == j) = false:=(by simpa using qY);have v2:((k:Int) == (j:Int)) = false:=(by simp;omega);have v3:((k:Int) != (j:Int)) = true:=(by simp;omega);have v5:decide (n≤j) = false:=ac (by omega);by_cases x1:x < 1
             ·have HF:=bk (oH.out (fun h=>by have:=(qM.out.1 h).2 sU hjn qY;omega));have t1:decide (x < 1) = true:=ae x1;go_wp2_with fail;go_ret;exact ⟨false,rfl,⟨fun h=>(by cases h),fun h=>(HF.out h).elim⟩,oQ.out⟩
             ·have t1:decide (x < 1) = false:=ac x1;by_cases x2:255 < x
              ·have HF:=bk (oH.out (fun h=>by have:=(qM.out.1 h).2 sU hjn qY;omega));have t2:decide (255 < x) = true:=ae x2;clear x1;go_wp2_with fail;go_ret;exact ⟨false,rfl,⟨fun h=>(by cases h),fun h=>(HF.out h).elim⟩,oQ.out⟩
              ·have t2:decide (255 < x) = false:=ac x2;by_cases x3:x = y
               ·have HT:=bk (qM.out.2 ⟨fun h=>by omega,fun _ _ _=>⟨by omega,by omega,x3⟩⟩);have t3:(x != y) = false:=(by simpa using x3);clear x1 x2 x3;go_wp2_with fail;go_roundw
                case rel=>exact ⟨oJ,j+1,by omega,by go_num,bk (fun i hi=>by
                 by_cases e:i = j
                 ·subst e;exact HT.out
                 ·exact HJ.out i (by omega))⟩
                case measure=>simp [intOf];omega
               ·have HF:=bk (oH.out (fun h=>by have:=(qM.out.1 h).2 sU hjn qY;omega));have t3:(x != y) = true:=(by simpa using x3);have t4:(x == y) = false:=(by simpa using x3);clear x1 x2 x3;go_wp2_with fail;go_ret;exact ⟨false,rfl,⟨fun h=>(by cases h),fun h=>(HF.out h).elim⟩,oQ.out⟩
           ·have v5:decide (n≤j) = true:=ae (by omega);by_cases x0:x = 0
            ·subst x0;have HT:=bk (qM.out.2 ⟨fun _=>rfl,fun h1 h2 h3=>by omega⟩);go_wp2_with fail;go_roundw
             case rel=>exact ⟨oJ,j+1,by omega,by go_num,bk (fun i hi=>by
              by_cases e:i = j
              ·subst e;exact HT.out
              ·exact HJ.out i (by omega))⟩
             case measure=>simp [intOf];omega
            ·have HF:=bk (oH.out (fun h=>x0 ((qM.out.1 h).1 (.inr (.inl (by omega))))));have t1:(x != 0) = true:=(by simpa using x0);have t2:(x == 0) = false:=(by simpa using x0);go_wp2_with fail;go_ret;exact ⟨false,rfl,⟨fun h=>(by cases h),fun h=>(HF.out h).elim⟩,oQ.out⟩
          ·obtain rfl:j = 8:=(by omega);go_wp2_with fail;go_roundw
           case rel =>
            repeat apply Exists.intro
            exact ⟨⟨oJ,k+1,by omega,by go_num,bk (fun i hi=>by
             by_cases e:i = k
             ·subst e;exact ⟨HTF.out,HJ.out⟩
             ·exact HK.out i (by omega))⟩,rfl⟩
           case measure=>simp [intOf];omega
     ·have t0:decide (k < n) = false:=ac sU;by_cases x0:x = 0
      ·subst x0;have HTF:=bk (qM.out.2 ⟨fun h=>by omega,fun _=>rfl⟩);go_wp2_with fail;refine rgt [0,0,0,0,0,1,0,0,0,0,0,1,0,0,0,0,0,0,1,0,1,0,0,0,0,0,0,0,0,0,0,1,0,0,0] [none,none,some (82,true),some (82,true),some (82,true),some (82,true),some (82,true),some (82,true),some (88,false),some (88,false),some (88,false),some (88,false),some (88,false),some (82,true),some (82,true),some (95,false),some (95,false),some (95,false),some (95,false),some (95,false),some (95,false),some (95,false),some (82,true),none,none,some (105,false),some (105,false),some (105,false),some (108,true),some (108,true),some (108,true),some (108,true),some (108,true),some (105,false),none] (fun _=>True) ?_;go_wp2_with (first|refine fj ?_ ?_;(focus (simp [gf,undef];done));go_simp|refine cdA fun K U=>?_|refine cx ?_;go_simp|refine cy ?_|refine bn fun K U=>?_;go_simp|refine bq ?_);clear qM oH gx g93;go_loopw [6] (fun i wr'=>Chg [] W wr'∧∃j:Nat,j≤8∧i = .int .i64 j∧Hid (∀i:Nat,i < j→DP c k i)) (fun i _=>8 - (intOf i).toNat)
       case atStart=>exact ⟨lN.drew,0,by omega,rfl,bk (fun i hi=>by omega)⟩
       case round =>
        obtain ⟨oJ,j,hj,rfl,HJ⟩:=hrel;have sC:=bk (HB.out.chg oJ ab);have oQ:=bk (HC.out.stay oJ);have g0:=CB.get sC.out (i:=0) (by omega);rw [HN.out] at g0;have Ef:=sC.out.lt;by_cases hjt:j < 8
        ·have j1:(0:Int)≤(j:Int):=(by omega);have j2:(j:Int) < 8:=(by omega);have e1:=CB.get sC.out (i:=26+k * 8+j) (by omega);have e2:=CB.get sC.out (i:=26+j * 8+k) (by omega);obtain ⟨x,hx⟩:∃x,c (26+k * 8+j) = x:=⟨_,rfl⟩;obtain ⟨y,hy⟩:∃y,c (26+j * 8+k) = y:=⟨_,rfl⟩;rw [hx] at e1;rw [hy] at e2;have qM:=bk (show DP c k j↔((n≤k∨n≤j∨k = j→x = 0)∧(k < n→j < n→k≠j→1≤x∧x≤255∧x = y)) by
          unfold DP
          rw [hx,hy,HN.out]
          constructor
          ·rintro ⟨a,b⟩;exact ⟨fun h=>a (by omega),fun h1 h2 h3=>b (by omega) (by omega) h3⟩
          ·rintro ⟨a,b⟩;exact ⟨fun h=>a (by omega),fun h1 h2 h3=>b (by omega) (by omega) h3⟩)
         have oH:=bk (show ¬ DP c k j→¬ jx c from fun h hM=>h (((HI.out.1 hM).2.2.1 k hkt).2 j hjt));clear hx hy;by_cases x0:x = 0
         ·subst x0;have HT:=bk (qM.out.2 ⟨fun _=>rfl,fun h1 h2 h3=>by omega⟩);go_wp2_with fail;go_roundw
          case rel=>exact ⟨oJ,j+1,by omega,by go_num,bk (fun i hi=>by
           by_cases e:i = j
           ·subst e;exact HT.out
           ·exact HJ.out i (by omega))⟩
          case measure=>simp [intOf];omega
         ·have HF:=bk (oH.out (fun h=>x0 ((qM.out.1 h).1 (.inl (by omega)))));have t1:(x != 0) = true:=(by simpa using x0);have t2:(x == 0) = false:=(by simpa using x0);go_wp2_with fail;go_ret;exact ⟨false,rfl,⟨fun h=>(by cases h),fun h=>(HF.out h).elim⟩,oQ.out⟩
        ·obtain rfl:j = 8:=(by omega);go_wp2_with fail;go_roundw
         case rel =>
          repeat apply Exists.intro
          exact ⟨⟨oJ,k+1,by omega,by go_num,bk (fun i hi=>by
           by_cases e:i = k
           ·subst e;exact ⟨HTF.out,HJ.out⟩
           ·exact HK.out i (by omega))⟩,rfl⟩
         case measure=>simp [intOf];omega
      ·have HF:=bk (oH.out (fun h=>x0 ((qM.out.1 h).2 (by omega))));have t1:(x != 0) = true:=(by simpa using x0);have t2:(x == 0) = false:=(by simpa using x0);go_wp2_with fail;refine rgt [0,0,0,0,0,1,0,0,0,0,0,1,0,0,0,0,0,0,1,0,1,0,0,0,0,0,0,0,0,0,0,1,0,0,0] [none,none,some (82,true),some (82,true),some (82,true),some (82,true),some (82,true),some (82,true),some (88,false),some (88,false),some (88,false),some (88,false),some (88,false),some (82,true),some (82,true),some (95,false),some (95,false),some (95,false),some (95,false),some (95,false),some (95,false),some (95,false),some (82,true),none,none,some (105,false),some (105,false),some (105,false),some (108,true),some (108,true),some (108,true),some (108,true),some (108,true),some (105,false),none] (fun _=>True) ?_;go_wp2_with (first|refine fj ?_ ?_;(focus (simp [gf,undef];done));go_simp|refine cdA fun K U=>?_|refine cx ?_;go_simp|refine cy ?_|refine bn fun K U=>?_;go_simp|refine bq ?_);go_ret;exact ⟨false,rfl,⟨fun h=>(by cases h),fun h=>(HF.out h).elim⟩,oQ.out.drew⟩
    ·obtain rfl:k = 8:=(by omega);have g91:=CB.get sC.out (i:=91) (by omega);have g92:=CB.get sC.out (i:=92) (by omega);by_cases m1:0≤c 91
     ·by_cases m2:c 91≤c 92
      ·by_cases m3:c 92≤c 93
       ·have HT:=bk (HI.out.2 ⟨HPRE.out,HH.out,HK.out,m1,m2,m3⟩);go_wp2_with fail;go_ret;exact ⟨true,rfl,⟨fun _=>HT.out,fun _=>rfl⟩,oQ.out⟩
       ·have HF:=bk (fun h:jx c=>m3 h.hi);have d3:decide (c 92≤c 93) = false:=ac m3;go_wp2_with fail;go_ret;exact ⟨false,rfl,⟨fun h=>(by cases h),fun h=>(HF.out h).elim⟩,oQ.out⟩
      ·have HF:=bk (fun h:jx c=>m2 h.lo);have d3:decide (c 91≤c 92) = false:=ac m2;go_wp2_with fail;go_ret;exact ⟨false,rfl,⟨fun h=>(by cases h),fun h=>(HF.out h).elim⟩,oQ.out⟩
     ·have HF:=bk (fun h:jx c=>m1 h.mi);have d3:decide (0≤c 91) = false:=ac m1;go_wp2_with fail;go_ret;exact ⟨false,rfl,⟨fun h=>(by cases h),fun h=>(HF.out h).elim⟩,oQ.out⟩
theorem yb (c:Cf) (w:World):Calls Tryz.prog 14 #[.agg (cg c)] w fun e w'=>e = .returned (.bool (mayB c))∧Chg [] w w':=by refine (rmay_any c w).mono ?_;rintro e w' ⟨r,rfl,hr,hc⟩;rw [iD hr];exact ⟨rfl,hc⟩
