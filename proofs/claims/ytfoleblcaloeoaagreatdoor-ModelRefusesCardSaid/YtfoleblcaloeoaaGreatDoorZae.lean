/- Texts merged for the claim. -/
import Derived.Test.YtfoleblcaloeoaaGreatDoorZad
import Derived.Laws.IdiomStrings
import Derived.Laws.BitsAllLaws
import Derived.Laws.RangeAny
set_option maxHeartbeats 40000000
set_option maxRecDepth 20000
namespace Go.Proofs.YtfoleblcaloeoaaGreatDoor
open Go Go.RowKit
theorem mayP_iff {c:Cf} (hn:1≤c 0∧c 0≤8) (hp:1≤c 1∧c 1≤16) (hs:0≤c 90∧c 90≤1024) (hb:∀i,i < 94→c i = pj c i) :
  jh c↔(∀i:Nat,(i:Int) < c 1→0≤c (2+i)∧c (2+i)≤c 0 - 1)∧(∀i:Nat,(i:Int) < c 0→(4≤c (18+i)∧c (18+i)≤128)∧c 93≤c (18+i))∧NearP c∧0≤c 91∧c 91≤c 92∧c 92≤c 93:=by
 obtain ⟨b1,b2,b3⟩:=(yp hn hp).1 hb
 constructor
 ·intro h
  refine ⟨fun i hi=>by have:=h.home i (by omega) hi;omega,fun i hi=>by have:=h.fr i (by omega) hi;omega,fun i k hi hk=>?_,h.mi,h.lo,h.hi⟩
  by_cases e:i = k
  ·subst e
   have:=h.ds0 i i (by omega) (by omega) (.inr (.inr rfl))
   unfold vu
   simp [this]
  ·have:=h.ds1 i k (by omega) (by omega) hi hk e
   unfold vu
   refine ⟨⟨fun h=>by omega,fun h=>absurd h e⟩,by omega,by omega⟩
 ·rintro ⟨h1,h2,h3,h4,h5,h6⟩
  refine ⟨hn.1,hn.2,hp.1,hp.2,hs.1,hs.2,fun i _ hi=>by have:=h1 i hi;omega,fun i hi hc=>b1 i hi hc,fun i _ hi=>by have:=h2 i hi;omega,fun i hi hc=>b2 i hi hc,fun i k hi hk hc=>?_,fun i k _ _ hi hk jO=>?_,h4,h5,h6⟩
  ·by_cases e:c 0≤(i:Int)∨c 0≤(k:Int)
   ·exact b3 i k hi hk e
   ·exact (h3 i k (by omega) (by omega)).1.2 (by rcases hc with h | h | h;exact absurd (.inl h) e;exact absurd (.inr h) e;exact h)
  ·obtain ⟨p1,p2,p3⟩:=h3 i k hi hk
   have:c (26+i * 8+k)≠0:=fun h=>jO (p1.1 h)
   omega
theorem ta {c:Cf} (h:jh c):(1≤c 0∧c 0≤8)∧(1≤c 1∧c 1≤16)∧(0≤c 90∧c 90≤1024)∧∀i,i < 94→c i = pj c i:=by
 refine ⟨⟨h.n1,h.n8⟩,⟨h.p1,h.p16⟩,⟨h.s0,h.s1⟩,(yp ⟨h.n1,h.n8⟩ ⟨h.p1,h.p16⟩).2 ⟨fun i hi hc=>h.home0 i hi hc,fun i hi hc=>h.fr0 i hi hc,fun i k hi hk hc=>h.ds0 i k hi hk (by omega)⟩⟩
theorem neq_cg (w:World) (c d:Cf):∃r:Bool,(∀w,(binOp .neq 26 (.agg (cg c)) (.agg (cg d))).run Tryz.prog w = .ok (.bool (!r)) w)∧(r = true↔∀i,i < 94→c i = d i):=by
 obtain ⟨r,h1,h2⟩:=zo w c d
 refine ⟨r,fun w'=>?_,h2⟩
 obtain ⟨r',h3,h4⟩:=zo w' c d
 have:r' = r:=by rw [Bool.eq_iff_iff,h4,h2]
 rw [run_neq_struct,h3,this]
 rfl
theorem zr {S:World→Prop} {Q:Exit→Act→World→Prop} {o:Oper} {rest:List Oper} {ks:List Nat} {gs:List (Option (Nat × Bool))} {A:Act} {w:World} (x y:Operand) (t:TypeId) (ho:o.op = .binOp .neq 26 x y t) {c d:Cf}
  (hx:A.eval x = .agg (cg c)) (hy:A.eval y = .agg (cg d)) {r:Bool} (hr:∀w,(binOp .neq 26 (.agg (cg c)) (.agg (cg d))).run Tryz.prog w = .ok (.bool (!r)) w) (hk:wpG Tryz.prog S Q rest ks gs (A.put o.dst (.bool (!r))) w) :
  wpG Tryz.prog S Q (o :: rest) (0 :: ks) (none :: gs) A w:=by
 refine ai (fun K I=>⟨_,fun w'=>?_,I _ _ hk⟩)
 unfold execOp
 simp only [ho,hx,hy,Sem.run_bind,run_eqGuard_agg w' .neq 26 x y _ _ (show Tryz.prog.eqGuardType Tryz.prog.depth 26 = false by kernel_rfl),Result.andThen_ok,hr,Sem.run_pure]
theorem load26 {w:World} {b:Nat} {c:Cf} (h:CB w b c):(loadVar 26 ⟨b,0,none⟩).run Tryz.prog w = .ok (.agg (cg c)) w:=run_loadVar_row w b 26 26 (cg c) (0,0) _ h Tryz.underlying26 rfl mh
theorem jm (c:Cf) (w:World):Calls Tryz.prog 26 #[.agg (cg c)] w fun e w'=>∃r:Bool,e = .returned (.bool r)∧(r = true↔jh c)∧Chg [] w w':=by
 have hb:=Blk.new w 26 (cg c)
 have q0:=CB.get hb (i:=0) (by omega)
 have q1:=CB.get hb (i:=1) (by omega)
 have q90:=CB.get hb (i:=90) (by omega)
 have HB:=ah hb
 have pB:w.heap.size < (w.alloc (.cells (cg c) 26)).heap.size:=by simp
 have g0:=ig c (i:=0) (by omega)
 have g1:=ig c (i:=1) (by omega)
 have g90:=ig c (i:=90) (by omega)
 have HC:=ah (show Chg [] w (w.alloc (.cells (cg c) 26)) from (Chg.refl [] w).alloc _)
 clear hb
 by_cases hn:1≤c 0∧c 0≤8
 rotate_left
 ·have HF:=ah (fun h:jh c=>hn (ta h).1)
  have d0:decide (1≤c 0∧c 0≤8) = false:=ac hn
  clear hn
  go_enter Tryz.func26,Tryz.ntmps26
  go_wp2_with (first|refine cb rfl _ rfl rfl ?_)
  have qW:=HB.out.drew
  refine rgt [0,1,3,0,0,0,1,3,0,0,0,0,1,3,0,0,0,5,5,6,0,0] [none,none,none,none,none,some (11,false),some (11,false),some (11,false),some (11,false),none,none,some (17,false),some (17,false),some (17,false),some (17,false),none,none,some (23,false),some (23,false),some (23,false),some (23,false),none] (fun W=>CB W w.heap.size c) ?_
  go_wp2_with (first|(refine ao fun K I=>?_;go_simp;refine (ed _ _ _ _).mono ?_;rintro e W7 ⟨rfl,rfl⟩;refine I _ _ ?_;clear I K)|refine av fun K I=>?_|refine ay ?_ ?_;(focus (simp [bb];done));go_simp|refine bh ?_ ?_;(focus (simp [bb];done))|refine ai fun K I=>?_;go_simp;refine I _ _ ?_;clear I K|refine ao fun K I=>?_;go_simp|refine aj ?_)
  go_ret
  exact ⟨false,rfl,⟨fun h=>(by cases h),fun h=>(HF.out h).elim⟩,HC.out.drew⟩
 have d0:decide (1≤c 0∧c 0≤8) = true:=ae hn
 have Hn:=ah hn
 clear hn
 by_cases hp:1≤c 1∧c 1≤16
 rotate_left
 ·have HF:=ah (fun h:jh c=>hp (ta h).2.1)
  have d1:decide (1≤c 1∧c 1≤16) = false:=ac hp
  clear hp
  go_enter Tryz.func26,Tryz.ntmps26
  go_wp2_with (first|refine cb rfl _ rfl rfl ?_)
  have qW:=HB.out.drew
  refine rgt [0,1,3,0,0,0,1,3,0,0,0,0,1,3,0,0,0,5,5,6,0,0] [none,none,none,none,none,some (11,false),some (11,false),some (11,false),some (11,false),none,none,some (17,false),some (17,false),some (17,false),some (17,false),none,none,some (23,false),some (23,false),some (23,false),some (23,false),none] (fun W=>CB W w.heap.size c) ?_
  go_wp2_with (first|(refine ao fun K I=>?_;go_simp;refine (ed _ _ _ _).mono ?_;rintro e W7 ⟨rfl,rfl⟩;refine I _ _ ?_;clear I K)|refine av fun K I=>?_|refine ay ?_ ?_;(focus (simp [bb];done));go_simp|refine bh ?_ ?_;(focus (simp [bb];done))|refine ai fun K I=>?_;go_simp;refine I _ _ ?_;clear I K|refine ao fun K I=>?_;go_simp|refine aj ?_)
  go_ret
  exact ⟨false,rfl,⟨fun h=>(by cases h),fun h=>(HF.out h).elim⟩,HC.out.drew⟩
 have d1:decide (1≤c 1∧c 1≤16) = true:=ae hp
 have Hp:=ah hp
 clear hp
 by_cases hs:0≤c 90∧c 90≤1024
 rotate_left
 ·have HF:=ah (fun h:jh c=>hs (ta h).2.2.1)
  have d2:decide (0≤c 90∧c 90≤1024) = false:=ac hs
  clear hs
  go_enter Tryz.func26,Tryz.ntmps26
  go_wp2_with (first|refine cb rfl _ rfl rfl ?_)
  have qW:=HB.out.drew
  refine rgt [0,1,3,0,0,0,1,3,0,0,0,0,1,3,0,0,0,5,5,6,0,0] [none,none,none,none,none,some (11,false),some (11,false),some (11,false),some (11,false),none,none,some (17,false),some (17,false),some (17,false),some (17,false),none,none,some (23,false),some (23,false),some (23,false),some (23,false),none] (fun W=>CB W w.heap.size c) ?_
  go_wp2_with (first|(refine ao fun K I=>?_;go_simp;refine (ed _ _ _ _).mono ?_;rintro e W7 ⟨rfl,rfl⟩;refine I _ _ ?_;clear I K)|refine av fun K I=>?_|refine ay ?_ ?_;(focus (simp [bb];done));go_simp|refine bh ?_ ?_;(focus (simp [bb];done))|refine ai fun K I=>?_;go_simp;refine I _ _ ?_;clear I K|refine ao fun K I=>?_;go_simp|refine aj ?_)
  go_ret
  exact ⟨false,rfl,⟨fun h=>(by cases h),fun h=>(HF.out h).elim⟩,HC.out.drew⟩
 have d2:decide (0≤c 90∧c 90≤1024) = true:=ae hs
 have Hs:=ah hs
 clear hs
 obtain ⟨r,hr,Ez⟩:=neq_cg w c (pj c)
 have HR:=ah hr
 have nU:=ah (fun W:World=>bare_any (c:=c) W Hn.out Hp.out)
 obtain ⟨D,hD⟩:∃D,D = pj c:=⟨_,rfl⟩
 rw [← hD] at HR nU
 have BE:=ah Ez
 clear hr Ez hD
 cases r with
 | false =>
  have HF:=ah (fun h:jh c=>Bool.false_ne_true (BE.out.2 (ta h).2.2.2))
  go_enter Tryz.func26,Tryz.ntmps26
  go_wp2_with (first|refine cb rfl _ rfl rfl ?_)
  have qW:=HB.out.drew
  refine rgt [0,1,3,0,0,0,1,3,0,0,0,0,1,3,0,0,0,5,5,6,0,0] [none,none,none,none,none,some (11,false),some (11,false),some (11,false),some (11,false),none,none,some (17,false),some (17,false),some (17,false),some (17,false),none,none,some (23,false),some (23,false),some (23,false),some (23,false),none] (fun W=>CB W w.heap.size c) ?_
  go_wp2_with (first|(refine ao fun K I=>?_;go_simp;refine (ed _ _ _ _).mono ?_;rintro e W7 ⟨rfl,rfl⟩;refine I _ _ ?_;clear I K)|refine al 26 _ rfl rfl (fun w' J=>load26 J) qW ?_|refine av fun K I=>?_|refine ay ?_ ?_;(focus (simp [bb];done));go_simp|refine bh ?_ ?_;(focus (simp [bb];done))|refine ai fun K I=>?_;go_simp;refine I _ _ ?_;clear I K|refine ao fun K I=>?_;go_simp|refine aj ?_)
  (refine aw qW fun K I=>?_)
  go_simp
  refine (nU.out _).mono ?_
  rintro e W2 ⟨rfl,jA⟩
  have kU:CB W2 w.heap.size c:=qW.chg jA ab
  refine I _ _ kU ?_
  clear I K
  go_wp2_with (first|refine zr _ _ _ rfl rfl rfl HR.out ?_|refine av fun K I=>?_|refine ay ?_ ?_;(focus (simp [bb];done));go_simp|refine bh ?_ ?_;(focus (simp [bb];done))|refine ai fun K I=>?_;go_simp;refine I _ _ ?_;clear I K|refine ao fun K I=>?_;go_simp|refine aj ?_)
  go_ret
  exact ⟨false,rfl,⟨fun h=>(by cases h),fun h=>(HF.out h).elim⟩,HC.out.drew.stay jA⟩
 | true =>
  have hI:=mayP_iff Hn.out Hp.out Hs.out (BE.out.1 rfl)
  obtain ⟨n,qT⟩:∃n:Nat,c 0 = n:=⟨(c 0).toNat,by have:=Hn.out.1;omega⟩
  obtain ⟨p,nM⟩:∃p:Nat,c 1 = p:=⟨(c 1).toNat,by have:=Hp.out.1;omega⟩
  have wO:n≤8:=by have:=Hn.out.2;omega
  have hp16:p≤16:=by have:=Hp.out.2;omega
  have pp1:(0:Int)≤(p:Int):=by omega
  have pp2:(p:Int)≤16:=by omega
  have nn1:(0:Int)≤(n:Int):=by omega
  have nn3:(1:Int)≤(n:Int):=by have:=Hn.out.1;omega
  have pp3:(1:Int)≤(p:Int):=by have:=Hp.out.1;omega
  have nn2:(n:Int)≤8:=by omega
  have Cz:=ah (fun W:World=>near_any (c:=c) W Hn.out)
  have HI:=ah hI
  have Ee:=ah qT
  have HP':=ah nM
  rw [qT] at d0 g0 q0
  rw [nM] at d1 g1 q1
  clear qT nM hI
  go_enter Tryz.func26,Tryz.ntmps26
  go_wp2_with (first|refine cb rfl _ rfl rfl ?_)
  have qW:=HB.out.drew
  refine rgt [0,1,3,0,0,0,1,3,0,0,0,0,1,3,0,0,0,5,5,6,0,0] [none,none,none,none,none,some (11,false),some (11,false),some (11,false),some (11,false),none,none,some (17,false),some (17,false),some (17,false),some (17,false),none,none,some (23,false),some (23,false),some (23,false),some (23,false),none] (fun W=>CB W w.heap.size c) ?_
  go_wp2_with (first|(refine ao fun K I=>?_;go_simp;refine (ed _ _ _ _).mono ?_;rintro e W7 ⟨rfl,rfl⟩;refine I _ _ ?_;clear I K)|refine al 26 _ rfl rfl (fun w' J=>load26 J) qW ?_|refine av fun K I=>?_|refine ay ?_ ?_;(focus (simp [bb];done));go_simp|refine bh ?_ ?_;(focus (simp [bb];done))|refine ai fun K I=>?_;go_simp;refine I _ _ ?_;clear I K|refine ao fun K I=>?_;go_simp|refine aj ?_)
  (refine aw qW fun K I=>?_)
  go_simp
  refine (nU.out _).mono ?_
  rintro e W2 ⟨rfl,jA⟩
  have kU:CB W2 w.heap.size c:=qW.chg jA ab
  refine I _ _ kU ?_
  clear I K
  have jU:=ah (HC.out.drew.stay jA)
  have r0:=CB.get kU (i:=0) (by omega)
  have r1:=CB.get kU (i:=1) (by omega)
  rw [Ee.out] at r0
  rw [HP'.out] at r1
  have nC:=ah kU
  have hbl2:=kU.lt
  clear kU jA qW HB HC q0 q1 q90 pB
  go_wp2_with (first|refine zr _ _ _ rfl rfl rfl HR.out ?_|refine av fun K I=>?_|refine ay ?_ ?_;(focus (simp [bb];done));go_simp|refine bh ?_ ?_;(focus (simp [bb];done))|refine ai fun K I=>?_;go_simp;refine I _ _ ?_;clear I K|refine ao fun K I=>?_;go_simp|refine aj ?_)
  generalize w.heap.size = b at r0 r1 nC hbl2 ⊢
  go_loopw [34] (fun i wr=>wr = W2∧∃k:Nat,k≤p∧i = .int .i64 k∧Hid (∀i:Nat,i < k→0≤c (2+i)∧c (2+i)≤c 0 - 1)) (fun i _=>p - (intOf i).toNat)
  case atStart=>exact ⟨rfl,0,by omega,rfl,ah (fun i hi=>by omega)⟩
  case round =>
   obtain ⟨rfl,k,hk,rfl,HH⟩:=hrel
   by_cases mQ:k < p
   ·have kk1:(0:Int)≤(k:Int):=by omega
    have kk2:(k:Int) < (p:Int):=by omega
    have t1:=CB.get nC.out (i:=2+k) (by omega)
    by_cases hw:0≤c (2+k)∧c (2+k)≤c 0 - 1
    ·have hW:=ah hw
     rw [Ee.out] at hw
     have dw:decide (0≤c (2+k)∧c (2+k)≤(n:Int) - 1) = true:=ae hw
     clear hw
     go_wp2_with (first|(go_at_call 53;refine (ed _ _ _ _).mono ?_;rintro e W7 ⟨rfl,rfl⟩))
     go_roundw
     case rel=>exact ⟨trivial,k+1,by omega,by go_num,ah (fun i hi=>by
      by_cases e:i = k
      ·subst e;exact hW.out
      ·exact HH.out i (by omega))⟩
     case measure=>simp [intOf];omega
    ·have HF:=ah (fun h:jh c=>hw ((HI.out.1 h).1 k (by rw [HP'.out];exact kk2)))
     rw [Ee.out] at hw
     have dw:decide (0≤c (2+k)∧c (2+k)≤(n:Int) - 1) = false:=ac hw
     clear hw
     go_wp2_with (first|(go_at_call 53;refine (ed _ _ _ _).mono ?_;rintro e W7 ⟨rfl,rfl⟩))
     go_ret
     exact ⟨false,rfl,⟨fun h=>(by cases h),fun h=>(HF.out h).elim⟩,jU.out⟩
   ·obtain rfl:k = p:=by omega
    have DU:=ah (show ∀i:Nat,(i:Int) < c 1→0≤c (2+i)∧c (2+i)≤c 0 - 1 from fun i hi=>HH.out i (by rw [HP'.out] at hi;omega))
    clear HH
    go_wp2_with fail
    go_loopw [50] (fun i wr'=>wr' = wr∧∃k:Nat,k≤n∧i = .int .i64 k∧Hid (∀i:Nat,i < k→(4≤c (18+i)∧c (18+i)≤128)∧c 93≤c (18+i))) (fun i _=>n - (intOf i).toNat)
    case atStart=>exact ⟨rfl,0,by omega,rfl,ah (fun i hi=>by omega)⟩
    case round =>
     obtain ⟨rfl,j,hj,rfl,HJ⟩:=hrel
     by_cases hjt:j < n
     ·have jj1:(0:Int)≤(j:Int):=by omega
      have jj2:(j:Int) < (n:Int):=by omega
      have t1:=CB.get nC.out (i:=18+j) (by omega)
      have t93:=CB.get nC.out (i:=93) (by omega)
      by_cases hw:4≤c (18+j)∧c (18+j)≤128
      ·have dw:decide (4≤c (18+j)∧c (18+j)≤128) = true:=ae hw
       have hW:=ah hw
       clear hw
       by_cases hh:c 93≤c (18+j)
       ·have dh:decide (c (18+j) < c 93) = false:=ac (by omega)
        have hH:=ah hh
        clear hh
        go_wp2_with (first|(go_at_call 53;refine (ed _ _ _ _).mono ?_;rintro e W7 ⟨rfl,rfl⟩))
        go_roundw
        case rel=>exact ⟨trivial,j+1,by omega,by go_num,ah (fun i hi=>by
         by_cases e:i = j
         ·subst e;exact ⟨hW.out,hH.out⟩
         ·exact HJ.out i (by omega))⟩
        case measure=>simp [intOf];omega
       ·have HF:=ah (fun h:jh c=>hh ((HI.out.1 h).2.1 j (by rw [Ee.out];exact jj2)).2)
        have dh:decide (c (18+j) < c 93) = true:=ae (by omega)
        clear hh
        go_wp2_with (first|(go_at_call 53;refine (ed _ _ _ _).mono ?_;rintro e W7 ⟨rfl,rfl⟩))
        go_ret
        exact ⟨false,rfl,⟨fun h=>(by cases h),fun h=>(HF.out h).elim⟩,jU.out⟩
      ·have HF:=ah (fun h:jh c=>hw ((HI.out.1 h).2.1 j (by rw [Ee.out];exact jj2)).1)
       have dw:decide (4≤c (18+j)∧c (18+j)≤128) = false:=ac hw
       clear hw
       go_wp2_with (first|(go_at_call 53;refine (ed _ _ _ _).mono ?_;rintro e W7 ⟨rfl,rfl⟩))
       go_ret
       exact ⟨false,rfl,⟨fun h=>(by cases h),fun h=>(HF.out h).elim⟩,jU.out⟩
     ·obtain rfl:j = n:=by omega
      have HJ2:=ah (show ∀i:Nat,(i:Int) < c 0→(4≤c (18+i)∧c (18+i)≤128)∧c 93≤c (18+i) from fun i hi=>HJ.out i (by rw [Ee.out] at hi;omega))
      clear HJ
      go_wp2_with (first|refine ng nC.out rfl _ rfl rfl ?_)
      refine (Cz.out _).mono ?_
      rintro e W5 ⟨r5,rfl,hr5,U⟩
      have qQ:CB W5 b c:=nC.out.chg U ab
      have u91:=CB.get qQ (i:=91) (by omega)
      have u92:=CB.get qQ (i:=92) (by omega)
      have u93:=CB.get qQ (i:=93) (by omega)
      have jL:=ah (jU.out.stay U)
      have hbl5:=qQ.lt
      have BD:=ah hr5
      clear qQ U hr5
      cases r5 with
      | false =>
       have HF:=ah (fun h:jh c=>Bool.false_ne_true (BD.out.2 (HI.out.1 h).2.2.1))
       go_wp2_with fail
       go_ret
       exact ⟨false,rfl,⟨fun h=>(by cases h),fun h=>(HF.out h).elim⟩,jL.out⟩
      | true =>
       by_cases m1:0≤c 91
       ·by_cases m2:c 91≤c 92
        ·by_cases m3:c 92≤c 93
         ·have HT:=ah (HI.out.2 ⟨DU.out,HJ2.out,BD.out.1 rfl,m1,m2,m3⟩)
          go_wp2_with fail
          go_ret
          exact ⟨true,rfl,⟨fun _=>HT.out,fun _=>rfl⟩,jL.out⟩
         ·have HF:=ah (fun h:jh c=>m3 h.hi)
          have d3:decide (c 92≤c 93) = false:=ac m3
          go_wp2_with fail
          go_ret
          exact ⟨false,rfl,⟨fun h=>(by cases h),fun h=>(HF.out h).elim⟩,jL.out⟩
        ·have HF:=ah (fun h:jh c=>m2 h.lo)
         have d3:decide (c 91≤c 92) = false:=ac m2
         go_wp2_with fail
         go_ret
         exact ⟨false,rfl,⟨fun h=>(by cases h),fun h=>(HF.out h).elim⟩,jL.out⟩
       ·have HF:=ah (fun h:jh c=>m1 h.mi)
        have d3:decide (0≤c 91) = false:=ac m1
        go_wp2_with fail
        go_ret
        exact ⟨false,rfl,⟨fun h=>(by cases h),fun h=>(HF.out h).elim⟩,jL.out⟩
theorem fU {c:Cf} {r:Bool} (h:r = true↔jh c):r = mayB c:=by rw [Bool.eq_iff_iff,h,mayB_iff]
theorem zt (c:Cf) (w:World):Calls Tryz.prog 26 #[.agg (cg c)] w fun e w'=>e = .returned (.bool (mayB c))∧Chg [] w w':=by
 refine (jm c w).mono ?_
 rintro e w' ⟨r,rfl,hr,hc⟩
 rw [fU hr]
 exact ⟨rfl,hc⟩
def ucl (x:Nat):List Value:=[.int .u8 x]
theorem jb (x:Nat):(ucl x).length = 1:=rfl
abbrev SB (w:World) (v:Value) (B:List Nat):Prop:=SE ucl 1 5 w v B
abbrev RB (w:World) (v:Value) (B:List Nat):Prop:=RE ucl 1 w v B
theorem vq (l:List Nat):∀u∈fc ucl l,u.oneCell' = true:=fun u hu=>by
 unfold fc at hu
 obtain ⟨x,_,hx⟩:=List.mem_flatMap.1 hu
 simp [ucl] at hx
 subst hx
 rfl
theorem info5b:(Tryz.prog.info? 5).map (fun i=>(i.zero,i.size,i.bytes)) = some (some (.int .u8 0),1,1):=by kernel_rfl
theorem pp {ops:Array Oper} {rest:List Oper} {o:Oper} {a:Act} {w:World} {Q:Exit→Act→World→Prop} (hg:o.guard = none) (s x:Operand)
  (ho:o.op = .call { callee:=.builtin .append,args:=#[s,x],argTypes:=#[38,38] }) (v y:Value) (hs:a.eval s = v) (hx:a.eval x = y) {l m:List Nat} (hv:SB w v l) (hy:RB w y m) (jN:l.length+m.length≤1000000)
  (h:∀A n c w',Hid (n = (l ++ m).length)→SB w' (.slice A n c) (l ++ m)→Chg (own v) w w'→Grow w v (.slice A n c)→wpList Tryz.prog ops Q rest (a.put o.dst (.slice A n c)) w') :
  wpList Tryz.prog ops Q (o :: rest) a w:=by
 obtain ⟨i5,hi,hz,vP,yX⟩:=info_parts info5b
 refine kl hg s x 38 ho 5 Tryz.underlying38 hi hz vP yX rfl hs hv hx hy (vq m) (by unfold maxLen;omega) (by omega) fun v' w' h2 h3 h4=>?_
 have oG:SB w' v' (l ++ m):=by
  unfold SB SE
  rw [List.length_append,lq]
  exact h2
 obtain ⟨A,c,rfl⟩:=oG.form
 exact h A _ c w' rfl oG h3 (rj h4)
theorem RB_one (w:World) (k:Nat):RB (w.alloc (.cells #[.int .u8 (k:Nat)] 5)) (.slice (some ⟨w.heap.size,0,none⟩) 1 1) [k]:=vw w 5 1 1 [.int .u8 k] rfl
def dz (l:List Nat):ByteArray:=⟨(l.map UInt8.ofNat).toArray⟩
theorem rm {w:World} {v:Value} {l:List Nat} (h:RB w v l) (h8:∀x∈l,x < 256):(convert 38 9 v).run Tryz.prog w = .ok (.string (dz l)) w:=by
 obtain ⟨A,c,rfl⟩:=RE.form h
 rcases Nat.eq_zero_or_pos l.length with h0 | h0
 ·obtain rfl:l = []:=List.eq_nil_of_length_eq_zero h0
  rw [run_convert_bytes_string w 38 9 5 A _ c Tryz.underlying38 Tryz.underlying5 Tryz.underlying9]
  cases A with
  | none=>simp [Conv.bytesToString,dz];rfl
  | some a =>
   have:=run_bytesToString (P:=Tryz.prog) w a 0 c [] (by rfl)
   have e:dz [] = ByteArray.empty:=rfl
   rw [e]
   simpa using this
 ·obtain ⟨g,off,rfl⟩:=RE.addr h h0
  have hl:(l.map UInt8.ofNat).length = l.length:=by simp
  rw [← hl]
  refine run_convert_bytes_back w 38 9 5 ⟨g,off,none⟩ c (l.map UInt8.ofNat) Tryz.underlying38 Tryz.underlying5 Tryz.underlying9 fun j hj=>?_
  rw [hl] at hj
  have:=RE.cell jb h hj (j:=0) (by omega) rfl
  rw [Addr.add_lit]
  rw [Nat.mul_one,Nat.add_zero] at this
  rw [this,List.getElem_map]
  congr 2
  have h2:=h8 _ (List.getElem_mem hj)
  simp [Nat.mod_eq_of_lt h2]
theorem strB_inj {l m:List Nat} (hl:∀x∈l,x < 256) (hm:∀x∈m,x < 256) (h:dz l = dz m):l = m:=by
 unfold dz at h
 injection h with h
 have h1:l.map UInt8.ofNat = m.map UInt8.ofNat:=by simpa using h
 have jN:l.length = m.length:=by simpa using congrArg List.length h1
 refine List.ext_getElem jN fun i h2 h3=>?_
 have h4:(l.map UInt8.ofNat)[i]? = (m.map UInt8.ofNat)[i]?:=by rw [h1]
 rw [List.getElem?_map,List.getElem?_map,List.getElem?_eq_getElem h2,List.getElem?_eq_getElem h3] at h4
 have h5:UInt8.ofNat l[i] = UInt8.ofNat m[i]:=by simpa using h4
 have h6:=congrArg UInt8.toNat h5
 have a1:=hl _ (List.getElem_mem h2)
 have a2:=hm _ (List.getElem_mem h3)
 simpa [Nat.mod_eq_of_lt a1,Nat.mod_eq_of_lt a2] using h6
theorem loopE (bs:ByteArray):∀(n i:Nat) (r:List UInt8),bs.size - i = n→ByteArray.toList.loop bs i r = r.reverse ++ bs.data.toList.drop i:=by
 have lY:bs.data.toList.length = bs.size:=by rw [Array.length_toList];rfl
 intro n
 induction n with
 | zero =>
  intro i r h
  rw [ByteArray.toList.loop]
  have:¬ i < bs.size:=by omega
  rw [if_neg this,List.drop_eq_nil_of_le (by omega)]
  simp
 | succ n ih =>
  intro i r h
  rw [ByteArray.toList.loop]
  have hi:i < bs.size:=by omega
  rw [if_pos hi,ih (i+1) _ (by omega)]
  have h2:i < bs.data.toList.length:=by omega
  rw [List.drop_eq_getElem_cons h2]
  have:bs.get! i = bs.data.toList[i]:=by
   show bs.data[i]! = _
   rw [getElem!_pos bs.data i hi]
   simp
  simp [this]
theorem aU (bs:ByteArray):bs.toList = bs.data.toList:=by
 unfold ByteArray.toList
 rw [loopE bs _ 0 [] rfl]
 simp
theorem ux (l:List Nat):(dz l).toList = l.map UInt8.ofNat:=by rw [aU];simp [dz]
theorem uj {l m:List Nat} (hl:∀x∈l,x < 256) (hm:∀x∈m,x < 256):((dz l).toList == (dz m).toList) = decide (l = m):=by
 rw [aU,aU]
 by_cases h:l = m
 ·subst h;simp
 ·rw [ac h]
  refine beq_false_of_ne fun e=>h (strB_inj hl hm ?_)
  have:(dz l).data = (dz m).data:=by
   have h1:=congrArg List.toArray e
   simpa using h1
  exact congrArg ByteArray.mk this
def wcl (x:Nat):List Value:=[.int .u64 x]
theorem rq (x:Nat):(wcl x).length = 1:=rfl
abbrev RW (w:World) (v:Value) (B:List Nat):Prop:=RE wcl 1 w v B
def u64 (z:Int):Nat:=(z % 18446744073709551616).toNat
def i64 (n:Nat):Int:=if n < 9223372036854775808 then (n:Int) else (n:Int) - 18446744073709551616
structure Cl where
 k:Nat
 p:Int
 n:Int
 g:Int
 c:Int
 a:Int
 s:Int
 r:Nat
 ok:Nat
 om:Nat
 h:Nat
 l:List Nat
def clc (x:Cl) (v:Value):Array Value:=#[.int .u8 x.k,.int .i64 x.p,.int .i64 x.n,.int .i64 x.g,.int .i64 x.c,.int .i64 x.a,.int .i64 x.s,.int .u8 x.r,.int .u8 x.ok,.int .u8 x.om,.int .u64 x.h,v]
structure Cl.Ok (x:Cl):Prop where
 k:x.k < 256
 p:-9223372036854775808≤x.p∧x.p≤9223372036854775807
 n:-9223372036854775808≤x.n∧x.n≤9223372036854775807
 g:-9223372036854775808≤x.g∧x.g≤9223372036854775807
 c:-9223372036854775808≤x.c∧x.c≤9223372036854775807
 a:-9223372036854775808≤x.a∧x.a≤9223372036854775807
 s:-9223372036854775808≤x.s∧x.s≤9223372036854775807
 r:x.r < 256
 ok:x.ok < 256
 om:x.om < 256
 h:x.h < 18446744073709551616
 l:∀b∈x.l,b < 256
abbrev KB (w:World) (b:Nat) (x:Cl) (v:Value):Prop:=Blk w b 47 (clc x v)
theorem dx {x:Cl} {v:Value}:(Tryz.prog.info? 47).map (·.size) = some (clc x v).size:=by
 have:(Tryz.prog.info? 47).map (·.size) = some 12:=by kernel_rfl
 exact this
theorem fK (x:Cl) {v:Value} (hv:v.oneCell' = true):((clc x v).all fun u=>u.oneCell') = true:=by
 simp [clc,show ∀k z,(Value.int k z).oneCell' = true from fun _ _=>rfl,hv]
section
variable {ops:Array Oper} {rest:List Oper} {o:Oper} {a:Act} {w:World} {Q:Exit→Act→World→Prop} {b:Nat} {x y:Cl} {v u:Value}
theorem KB.load (h:KB w b x v):(loadVar 47 ⟨b,0,none⟩).run Tryz.prog w = .ok (.agg (clc x v)) w :=
 run_loadVar_row w b 47 47 _ (0,0) _ h Tryz.underlying47 rfl dx
theorem KB.stay {w':World} (h:KB w b x v) (hc:Chg [] w w'):KB w' b x v:=Blk.chg h hc ab
theorem ck (hg:o.guard = none) (z:Operand) (ho:o.op = .load 47 z) (hx:a.eval z = .pointer (some ⟨b,0,none⟩)) (h0:KB w b x v) (h:wpList Tryz.prog ops Q rest (a.put o.dst (.agg (clc x v))) w):wpList Tryz.prog ops Q (o :: rest) a w :=
 wpList_load_row hg 47 z ho b hx 47 _ (0,0) _ h0 Tryz.underlying47 rfl dx h
theorem jz (hg:o.guard = none) (z t:Operand) (ho:o.op = .store 47 z t) (hx:a.eval z = .pointer (some ⟨b,0,none⟩)) (hy:a.eval t = .agg (clc y u)) (hu:u.oneCell' = true) (h0:KB w b x v)
  (h:∀w',KB w' b y u→Chg [b] w w'→wpList Tryz.prog ops Q rest (a.put o.dst undef) w'):wpList Tryz.prog ops Q (o :: rest) a w :=
 wpList_store_row hg 47 z t ho b _ hx hy 47 _ h0 dx rfl (fK y hu) (h _ (setRow_heap w b _ _ _ _ h0) ((Chg.refl [b] w).setRow (.inl (by simp)) _))
theorem ax (hg:o.guard = none) (z:Operand) (ho:o.op = .box 47 z) (hx:a.eval z = .agg (clc x v))
  (h:wpList Tryz.prog ops Q rest (a.put o.dst (.pointer (some ⟨w.heap.size,0,none⟩))) (w.alloc (.cells (clc x v) 47))):wpList Tryz.prog ops Q (o :: rest) a w :=
 Great.wpList_runTo hg _ rfl _ _ (by unfold execOp;simp only [ho,hx,Sem.run_bind,Instr.box,newVar,newRow,run_newObj_alloc,Sem.run_pure,Result.andThen_ok,Value.cells]) h
def zCl:Cl:=⟨0,0,0,0,0,0,0,0,0,0,0,[]⟩
def zV:Value:=.slice none 0 0
theorem zero34:∀w,(zeroValue 47).run Tryz.prog w = .ok (.agg (clc zCl zV)) w:=by
 have h:(Tryz.prog.info? 47).map (fun i=>(i.zero,i.size)) = some (some (.agg (clc zCl zV)),12):=by kernel_rfl
 exact (zero_of_info h).1
theorem us (w:World):(Instr.alloc 47 true (.tuple #[])).run Tryz.prog w = .ok (.pointer (some ⟨w.heap.size,0,none⟩)) (w.alloc (.cells (clc zCl zV) 47)):=by
 simp [Instr.alloc,Sem.run_bind,zero34,newVar,newRow,run_newObj_alloc,Value.cells,clc,zCl,zV]
theorem qw (hg:o.guard = none) (ho:o.op = .alloc 47)
  (h:wpList Tryz.prog ops Q rest (a.put o.dst (.pointer (some ⟨w.heap.size,0,none⟩))) (w.alloc (.cells (clc zCl zV) 47))):wpList Tryz.prog ops Q (o :: rest) a w :=
 Great.wpList_runTo hg _ rfl _ _ (by unfold execOp;simp only [ho,Sem.run_bind,us,Sem.run_pure,Result.andThen_ok]) h
end
theorem KB.cells {w:World} {b:Nat} {x:Cl} {v:Value} (h:KB w b x v) :
  w.cell? ⟨b,0,none⟩ = some (.int .u8 x.k)∧w.cell? ⟨b,1,none⟩ = some (.int .i64 x.p)∧w.cell? ⟨b,2,none⟩ = some (.int .i64 x.n)∧w.cell? ⟨b,3,none⟩ = some (.int .i64 x.g)∧w.cell? ⟨b,4,none⟩ = some (.int .i64 x.c)∧w.cell? ⟨b,5,none⟩ = some (.int .i64 x.a)∧w.cell? ⟨b,6,none⟩ = some (.int .i64 x.s) ∧
   w.cell? ⟨b,7,none⟩ = some (.int .u8 x.r)∧w.cell? ⟨b,8,none⟩ = some (.int .u8 x.ok)∧w.cell? ⟨b,9,none⟩ = some (.int .u8 x.om)∧w.cell? ⟨b,10,none⟩ = some (.int .u64 x.h)∧w.cell? ⟨b,11,none⟩ = some v∧b < w.heap.size∧∀i,w.frozen? ⟨b,i,none⟩ = false :=
 ⟨by simpa [clc] using Blk.cell h 0,by simpa [clc] using Blk.cell h 1,by simpa [clc] using Blk.cell h 2,by simpa [clc] using Blk.cell h 3,by simpa [clc] using Blk.cell h 4,by simpa [clc] using Blk.cell h 5,by simpa [clc] using Blk.cell h 6,by simpa [clc] using Blk.cell h 7,by simpa [clc] using Blk.cell h 8,by simpa [clc] using Blk.cell h 9,by simpa [clc] using Blk.cell h 10,by simpa [clc] using Blk.cell h 11,Blk.lt h,Blk.frozen h⟩
def fld:Nat→List Nat
 | 1=>[46] | 2=>[112] | 3=>[112,103,99,114] | 4=>[112,103,99] | 5=>[112,103,99,114] | 6=>[112,103,99] | 7=>[112,103,99]
 | 8=>[112,97,115] | 9=>[112,97,98] | 10=>[115] | 11=>[104] | 12=>[104,97,115] | 13=>[104,97,98] | 14=>[112,111] | 15=>[112,103,99,111]
 | 16=>[112,103] | 17=>[112,103] | 18=>[112,103,99,110] | 19=>[110] | 20=>[110] | 21=>[46] | _=>[]
theorem ri {k:Nat} (h:22≤k):fld k = []:=by
 obtain ⟨j,rfl⟩:∃j,k = j+22:=⟨k - 22,by omega⟩
 rfl
def wg (f:Nat):Prop:=f = 46∨f = 112∨f = 103∨f = 99∨f = 110∨f = 97∨f = 115∨f = 114∨f = 111∨f = 104∨f = 98
theorem fQ {k f:Nat} (h:f∈fld k):wg f:=by
 by_cases hk:k < 22
 ·have:∀k:Fin 22,∀f∈fld k.val,f = 46∨f = 112∨f = 103∨f = 99∨f = 110∨f = 97∨f = 115∨f = 114∨f = 111∨f = 104∨f = 98:=by decide
  exact this ⟨k,hk⟩ f h
 ·rw [ri (by omega)] at h;cases h
theorem yx {f:Nat} (h:wg f):f < 128:=by unfold wg at h;omega
theorem fld_lt {k f:Nat} (h:f∈fld k):f < 256:=by have:=yx (fQ h);omega
def FW (w:World):Prop:=∀k,k < 22→w.cell? ⟨0,k,none⟩ = some (.string (dz (fld k)))
theorem FW.chg {w w':World} {F:List Nat} (h:FW w) (hc:Chg F w w') (hF:0∉F):FW w':=fun k hk=>Chg.cell hc (h k hk) hF
theorem FW.stay {w w':World} (h:FW w) (hc:Chg [] w w'):FW w':=h.chg hc ab
theorem FW.pos {w:World} (h:FW w):0 < w.heap.size:=World.block_lt_of_cell? w _ (h 0 (by omega))
theorem dZ {w:World} (hf:FW w) {k:Nat} (hk:k < 256):Calls Tryz.prog 57 #[.int .u8 k] w fun e w'=>e = .returned (.string (dz (fld k)))∧w = w':=by
 by_cases h22:k < 22
 ·have hc:=hf k h22
  have hp:=hf.pos
  have d1:decide (22≤(k:Int)) = false:=ac (by omega)
  have d2:decide (22≤k) = false:=ac (by omega)
  have i0:(0:Int)≤(k:Int):=by omega
  have i1:(k:Int) < 22:=by omega
  generalize dz (fld k) = s at hc ⊢
  clear hf
  go_enter Tryz.func57,Tryz.ntmps57
  go_wp2_with fail
  go_ret
  exact ⟨rfl,rfl⟩
 ·rw [ri (by omega)]
  have d1:decide (22≤(k:Int)) = true:=ae (by omega)
  have d2:decide (22≤k) = true:=ae (by omega)
  clear hf
  go_enter Tryz.func57,Tryz.ntmps57
  go_wp2_with fail
  go_ret
  exact ⟨rfl,rfl⟩
def Itr (w:World) (b:Nat) (l:List Nat) (j:Nat):Prop:=w.heap[b]? = some (.stringIter (dz l) j)
theorem Itr.lt {w:World} {b j:Nat} {l:List Nat} (h:Itr w b l j):b < w.heap.size:=(Array.getElem?_eq_some_iff.1 h).1
theorem lw (l:List Nat):(dz l).size = l.length:=by simp [dz,ByteArray.size]
theorem cW {l:List Nat} {j:Nat} (hj:j < l.length) (hl:l[j] < 256):((dz l)[j]'(by rw [lw];exact hj)).toNat = l[j]:=by
 have:(dz l)[j]'(by rw [lw];exact hj) = UInt8.ofNat l[j]:=by
  show (dz l).data[j]'_ = _
  simp [dz]
 rw [this]
 simp [Nat.mod_eq_of_lt hl]
theorem Itr.next {w:World} {b j:Nat} {l:List Nat} (h:Itr w b l j) (hj:j < l.length) (ha:l[j] < 128):∃w',(∀ty,(Instr.next (.pointer (some ⟨b,0,none⟩)) true ty).run Tryz.prog w = .ok (.tuple #[.bool true,.int .i64 j,.int .i32 l[j]]) w')∧Itr w' b l (j+1)∧Chg [b] w w':=by
 have hs:j < (dz l).size:=by rw [lw];exact hj
 have hd:=decode_ascii (dz l) j hs (by rw [cW hj (by omega)];exact ha)
 rw [cW hj (by omega)] at hd
 refine ⟨{ w with heap:=w.heap.setIfInBounds b (.stringIter (dz l) (j+1)) },fun ty=>?_,?_,⟨rfl,rfl,rfl,by simp,fun k hk hn=>?_⟩⟩
 ·simp only [Instr.next,getObj,setObj,Sem.run_bind,Sem.run,(show w.heap[b]? = _ from h),Result.andThen,hs,if_true,hd]
  simp [goInt]
 ·show (w.heap.setIfInBounds b _)[b]? = _
  rw [Array.getElem?_setIfInBounds_self_of_lt h.lt]
 ·show (w.heap.setIfInBounds b _)[k]? = _
  rw [Array.getElem?_setIfInBounds_ne (by simpa using fun e=>hn (by simp [e]))]
theorem Itr.done {w:World} {b:Nat} {l:List Nat} (h:Itr w b l l.length):∀ty,(Instr.next (.pointer (some ⟨b,0,none⟩)) true ty).run Tryz.prog w = .ok (.tuple #[.bool false]) w:=fun ty=>by
 have hs:¬ l.length < (dz l).size:=by rw [lw];omega
 simp [Instr.next,getObj,Sem.run,(show w.heap[b]? = _ from h),hs]
theorem Itr.new (w:World) (l:List Nat):Itr (w.iter (dz l) 0) w.heap.size l 0:=World.iter_heap w _ 0
theorem chg_iter (w:World) (s:ByteArray):Chg [] w (w.iter s 0):=(Chg.refl [] w).alloc _
def td (f:Nat):Option Nat:=if f = 112 then some 1 else if f = 103 then some 3 else if f = 99 then some 4 else if f = 110 then some 2 else if f = 97 then some 5 else if f = 115 then some 6 else none
def ug (b:Nat):Option Nat→Value
 | none=>.pointer none
 | some o=>.pointer (some ⟨b,o,none⟩)
theorem wk {w:World} {b:Nat} (hb:b < w.heap.size) {f:Nat} (hf:wg f):Calls Tryz.prog 113 #[.pointer (some ⟨b,0,none⟩),.int .i32 f] w fun e w'=>e = .returned (.tuple #[ug b (td f),.bool (td f).isSome])∧w = w':=by
 unfold wg at hf
 rcases hf with rfl | rfl | rfl | rfl | rfl | rfl | rfl | rfl | rfl | rfl | rfl
 all_goals
  simp only [td,ug,reduceIte,Nat.reduceEqDiff,Option.isSome]
  go_enter Tryz.func113,Tryz.ntmps113
  go_wp2_with fail
  go_ret2
  exact ⟨rfl,rfl⟩
end Go.Proofs.YtfoleblcaloeoaaGreatDoor
