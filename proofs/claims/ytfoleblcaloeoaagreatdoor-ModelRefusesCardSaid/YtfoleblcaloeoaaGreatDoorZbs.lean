/- Texts merged for the claim. -/
import Derived.Test.YtfoleblcaloeoaaGreatDoorZbb
set_option maxHeartbeats 40000000
set_option maxRecDepth 20000
namespace Go.Proofs.YtfoleblcaloeoaaGreatDoor
open Go Go.RowKit
theorem oy {o:Oper} {a:Act} {w:World} {K:Act→World→Prop} {Q:Exit→Act→World→Prop} (ho:o.op = .alloc 47) (h:K (a.put o.dst (.pointer (some ⟨w.heap.size,0,none⟩))) (w.alloc (.cells (clc zCl zV) 47))):o.wp Tryz.prog a w K Q:=by
 unfold Oper.wp execOp
 simp only [ho,Sem.run_bind,us,Sem.run_pure,Result.andThen_ok]
 exact h
theorem pc {o:Oper} {a:Act} {w:World} {K:Act→World→Prop} {Q:Exit→Act→World→Prop} {b:Nat} {x y:Cl} {v u:Value} (z t:Operand) (ho:o.op = .store 47 z t) (hx:a.eval z = .pointer (some ⟨b,0,none⟩)) (hy:a.eval t = .agg (clc y u)) (hu:u.oneCell' = true) (h0:KB w b x v)
  (h:∀w',KB w' b y u→Chg [b] w w'→K (a.put o.dst undef) w'):o.wp Tryz.prog a w K Q :=
 wp_store_row 47 z t ho b _ hx hy 47 _ h0 dx rfl (fK y hu) (h _ (setRow_heap w b _ _ _ _ h0) ((Chg.refl [b] w).setRow (.inl (by simp)) _))
theorem zl {w:World} {x y:Cl} {v u:Value} (hv:RB w v x.l) (hu:RB w u y.l) (hl:∀b∈x.l,b < 256) (hm:∀b∈y.l,b < 256) :
  Calls Tryz.prog 103 #[.agg (clc x v),.agg (clc y u)] w fun e w'=>e = .returned (.bool (cz x y))∧Chg [] w w':=by
 obtain ⟨A0,c0,rfl⟩:=RE.form hv
 obtain ⟨A1,c1,rfl⟩:=RE.form hu
 obtain ⟨VX,hVX⟩:∃V:Array Value,V = clc x (.slice A0 x.l.length c0):=⟨_,rfl⟩
 obtain ⟨VY,hVY⟩:∃V:Array Value,V = clc y (.slice A1 y.l.length c1):=⟨_,rfl⟩
 obtain ⟨W2,jB⟩:∃W2,W2 = (w.alloc (.cells (clc x (.slice A0 x.l.length c0)) 47)).alloc (.cells (clc y (.slice A1 y.l.length c1)) 47):=⟨_,rfl⟩
 have jA:Chg [] w W2:=by rw [jB];exact ((Chg.refl [] w).alloc _).alloc _
 have kF:KB W2 w.heap.size x (.slice A0 x.l.length c0):=by rw [jB];exact (Blk.new w 47 _).alloc _
 have kU:KB W2 (w.heap.size+1) y (.slice A1 y.l.length c1):=by
  have:=Blk.new (w.alloc (.cells (clc x (.slice A0 x.l.length c0)) 47)) 47 (clc y (.slice A1 y.l.length c1))
  rw [af] at this
  rw [jB]
  exact this
 have HB:=ah (And.intro kF kU)
 have HC:=ah jA
 have jP:=ah jB
 have HV:=ah (And.intro hv hu)
 have HL:=ah (And.intro hl hm)
 clear hv hu hl hm jA kF kU jB hVX hVY VX VY
 go_enter Tryz.func103,Tryz.ntmps103
 go_wp2_with (first|refine ax rfl _ rfl rfl ?_;try simp only [af];try rw [← jP.out])
 rename_i K0 hK0
 have key:∀(b5 b6:Nat) (W:World),KB W b5 x (.slice A0 x.l.length c0)→KB W b6 y (.slice A1 y.l.length c1)→Chg [] w W →
   K0 { tmps:=#[.agg (clc x (.slice A0 x.l.length c0)),.agg (clc y (.slice A1 y.l.length c1)),.pointer (some ⟨w.heap.size,0,none⟩),.pointer (some ⟨w.heap.size+1,0,none⟩),.bool false,.pointer (some ⟨b5,0,none⟩),.pointer (some ⟨b6,0,none⟩),.agg (clc x (.slice A0 x.l.length c0)),.agg (clc y (.slice A1 y.l.length c1)),undef,undef,undef,undef,undef,undef,undef,undef,undef,undef,undef,undef,undef,undef,undef,undef,undef,undef,undef,undef,undef,undef,undef,undef,undef,undef,undef,undef,undef,undef,undef,undef,undef,undef,undef,undef,undef,undef,undef,undef,undef,undef,undef,undef,undef,undef,undef,undef,undef,undef,undef,undef,undef,undef,undef,undef,undef,undef,undef,undef,undef,undef,undef,undef,undef,undef,undef,undef,undef,undef,undef,undef,undef,undef,undef,undef,undef],defers:=[] } W:=by
  intro b5 b6 W hx hy hc
  have Bd:=rm (HV.out.1.stay hc) HL.out.1
  have Al:=rm (HV.out.2.stay hc) HL.out.2
  have pE:=uj HL.out.1 HL.out.2
  have pQ:=ah hc
  obtain ⟨c1',c2',c3',c4',c5',c6',c7',c8',c9',c10',c11',c12',cl',cf'⟩:=KB.cells hx
  obtain ⟨d1',d2',d3',d4',d5',d6',d7',d8',d9',d10',d11',d12',dl',df'⟩:=KB.cells hy
  clear hx hy hc cf' df' HV HL HB HC jP
  obtain ⟨k,p,n,g,c,a,s,r,ok,om,h,l⟩:=x
  obtain ⟨k',p',n',g',c',a',s',r',ok',om',h',l'⟩:=y
  simp only at c1' c2' c3' c4' c5' c6' c7' c8' c9' c10' c11' c12' d1' d2' d3' d4' d5' d6' d7' d8' d9' d10' d11' d12' Bd Al pE
  by_cases rN:l = l'
  ·subst rN
   rw [ae rfl] at pE
   generalize dz l = sx at Bd Al pE
   by_cases z:¬ (k = k')
   ·have j1:(k == k') = false:=beq_false_of_ne z
    have j2:decide (k = k') = false:=ac z
    have j3:((k:Int) == (k':Int)) = false:=beq_false_of_ne (by omega)
    have j4:decide ((k:Int) = (k':Int)) = false:=ac (by omega)
    have hs:cz ⟨k,p,n,g,c,a,s,r,ok,om,h,l⟩ ⟨k',p',n',g',c',a',s',r',ok',om',h',l⟩ = false:=by simp [cz,j1]
    have pP:=ah hs
    clear hs
    refine hK0 _ _ ?_
    go_wp2_with fail
    all_goals (go_ret;exact ⟨by rw [pP.out];rfl,pQ.out⟩)
   replace z:=Classical.not_not.1 z
   subst z
   by_cases z:¬ (p = p')
   ·have j1:(p == p') = false:=beq_false_of_ne z
    have j2:decide (p = p') = false:=ac z
    have hs:cz ⟨k,p,n,g,c,a,s,r,ok,om,h,l⟩ ⟨k,p',n',g',c',a',s',r',ok',om',h',l⟩ = false:=by simp [cz,j1]
    have pP:=ah hs
    clear hs
    refine hK0 _ _ ?_
    go_wp2_with fail
    all_goals (go_ret;exact ⟨by rw [pP.out];rfl,pQ.out⟩)
   replace z:=Classical.not_not.1 z
   subst z
   by_cases z:¬ (n = n')
   ·have j1:(n == n') = false:=beq_false_of_ne z
    have j2:decide (n = n') = false:=ac z
    have hs:cz ⟨k,p,n,g,c,a,s,r,ok,om,h,l⟩ ⟨k,p,n',g',c',a',s',r',ok',om',h',l⟩ = false:=by simp [cz,j1]
    have pP:=ah hs
    clear hs
    refine hK0 _ _ ?_
    go_wp2_with fail
    all_goals (go_ret;exact ⟨by rw [pP.out];rfl,pQ.out⟩)
   replace z:=Classical.not_not.1 z
   subst z
   by_cases z:¬ (g = g')
   ·have j1:(g == g') = false:=beq_false_of_ne z
    have j2:decide (g = g') = false:=ac z
    have hs:cz ⟨k,p,n,g,c,a,s,r,ok,om,h,l⟩ ⟨k,p,n,g',c',a',s',r',ok',om',h',l⟩ = false:=by simp [cz,j1]
    have pP:=ah hs
    clear hs
    refine hK0 _ _ ?_
    go_wp2_with fail
    all_goals (go_ret;exact ⟨by rw [pP.out];rfl,pQ.out⟩)
   replace z:=Classical.not_not.1 z
   subst z
   by_cases z:¬ (c = c')
   ·have j1:(c == c') = false:=beq_false_of_ne z
    have j2:decide (c = c') = false:=ac z
    have hs:cz ⟨k,p,n,g,c,a,s,r,ok,om,h,l⟩ ⟨k,p,n,g,c',a',s',r',ok',om',h',l⟩ = false:=by simp [cz,j1]
    have pP:=ah hs
    clear hs
    refine hK0 _ _ ?_
    go_wp2_with fail
    all_goals (go_ret;exact ⟨by rw [pP.out];rfl,pQ.out⟩)
   replace z:=Classical.not_not.1 z
   subst z
   by_cases z:¬ (a = a')
   ·have j1:(a == a') = false:=beq_false_of_ne z
    have j2:decide (a = a') = false:=ac z
    have hs:cz ⟨k,p,n,g,c,a,s,r,ok,om,h,l⟩ ⟨k,p,n,g,c,a',s',r',ok',om',h',l⟩ = false:=by simp [cz,j1]
    have pP:=ah hs
    clear hs
    refine hK0 _ _ ?_
    go_wp2_with fail
    all_goals (go_ret;exact ⟨by rw [pP.out];rfl,pQ.out⟩)
   replace z:=Classical.not_not.1 z
   subst z
   by_cases z:¬ (s = s')
   ·have j1:(s == s') = false:=beq_false_of_ne z
    have j2:decide (s = s') = false:=ac z
    have hs:cz ⟨k,p,n,g,c,a,s,r,ok,om,h,l⟩ ⟨k,p,n,g,c,a,s',r',ok',om',h',l⟩ = false:=by simp [cz,j1]
    have pP:=ah hs
    clear hs
    refine hK0 _ _ ?_
    go_wp2_with fail
    all_goals (go_ret;exact ⟨by rw [pP.out];rfl,pQ.out⟩)
   replace z:=Classical.not_not.1 z
   subst z
   by_cases z:¬ (r = r')
   ·have j1:(r == r') = false:=beq_false_of_ne z
    have j2:decide (r = r') = false:=ac z
    have j3:((r:Int) == (r':Int)) = false:=beq_false_of_ne (by omega)
    have j4:decide ((r:Int) = (r':Int)) = false:=ac (by omega)
    have hs:cz ⟨k,p,n,g,c,a,s,r,ok,om,h,l⟩ ⟨k,p,n,g,c,a,s,r',ok',om',h',l⟩ = false:=by simp [cz,j1]
    have pP:=ah hs
    clear hs
    refine hK0 _ _ ?_
    go_wp2_with fail
    all_goals (go_ret;exact ⟨by rw [pP.out];rfl,pQ.out⟩)
   replace z:=Classical.not_not.1 z
   subst z
   by_cases z:¬ (ok = ok'∧om = om')
   ·have hz:((ok:Int) == (ok':Int) && (om:Int) == (om':Int)) = false:=by
     cases hq:((ok:Int) == (ok':Int) && (om:Int) == (om':Int)) with
     | false=>rfl
     | true =>
      rw [Bool.and_eq_true,beq_iff_eq,beq_iff_eq] at hq
      exact absurd ⟨by omega,by omega⟩ z
    have wK:∀W,(Op.equalIn 10000 45 (.agg #[.int .u8 ok,.int .u8 om]) (.agg #[.int .u8 ok',.int .u8 om'])).run Tryz.prog W = .ok false W:=fun W=>by rw [← hz];exact od W _ _ _ _
    clear hz
    have hs:cz ⟨k,p,n,g,c,a,s,r,ok,om,h,l⟩ ⟨k,p,n,g,c,a,s,r,ok',om',h',l⟩ = false:=by simp [cz];intro q1 q2;exact absurd ⟨q1,q2⟩ z
    have pP:=ah hs
    clear hs
    refine hK0 _ _ ?_
    go_wp2_with fail
    all_goals (go_ret;exact ⟨by rw [pP.out];rfl,pQ.out⟩)
   obtain ⟨rfl,rfl⟩:=Classical.not_not.1 z
   by_cases z:¬ (h = h')
   ·have wK:∀W,(Op.equalIn 10000 45 (.agg #[.int .u8 ok,.int .u8 om]) (.agg #[.int .u8 ok,.int .u8 om])).run Tryz.prog W = .ok true W:=fun W=>by rw [show true = ((ok:Int) == (ok:Int) && (om:Int) == (om:Int)) by simp];exact od W _ _ _ _
    have j1:(h == h') = false:=beq_false_of_ne z
    have j2:decide (h = h') = false:=ac z
    have j3:((h:Int) == (h':Int)) = false:=beq_false_of_ne (by omega)
    have j4:decide ((h:Int) = (h':Int)) = false:=ac (by omega)
    have hs:cz ⟨k,p,n,g,c,a,s,r,ok,om,h,l⟩ ⟨k,p,n,g,c,a,s,r,ok,om,h',l⟩ = false:=by simp [cz,j1]
    have pP:=ah hs
    clear hs
    refine hK0 _ _ ?_
    go_wp2_with fail
    all_goals (go_ret;exact ⟨by rw [pP.out];rfl,pQ.out⟩)
   replace z:=Classical.not_not.1 z
   subst z
   have pP:=ah (eP ⟨k,p,n,g,c,a,s,r,ok,om,h,l⟩)
   have wK:∀W,(Op.equalIn 10000 45 (.agg #[.int .u8 ok,.int .u8 om]) (.agg #[.int .u8 ok,.int .u8 om])).run Tryz.prog W = .ok true W:=fun W=>by rw [show true = ((ok:Int) == (ok:Int) && (om:Int) == (om:Int)) by simp];exact od W _ _ _ _
   refine hK0 _ _ ?_
   go_wp2_with fail
   go_ret
   exact ⟨by rw [pP.out];rfl,pQ.out⟩
  ·rw [ac rN] at pE
   generalize dz l = sx at Bd pE
   generalize dz l' = sy at Al pE
   have hs:cz ⟨k,p,n,g,c,a,s,r,ok,om,h,l⟩ ⟨k',p',n',g',c',a',s',r',ok',om',h',l'⟩ = false:=by simp [cz,rN]
   have pP:=ah hs
   clear hs rN
   refine hK0 _ _ ?_
   go_wp2_with fail
   all_goals (go_ret;exact ⟨by rw [pP.out];rfl,pQ.out⟩)
 have hS:KB W2.drew w.heap.size x (.slice A0 x.l.length c0)∧KB W2.drew (w.heap.size+1) y (.slice A1 y.l.length c1):=⟨HB.out.1.drew,HB.out.2.drew⟩
 refine ku [5,5,6,6,6,6] [none,none,none,none,none,none] [[0,1,2,3,4,5],[0,1,3,2,4,5]] (fun W=>KB W w.heap.size x (.slice A0 x.l.length c0)∧KB W (w.heap.size+1) y (.slice A1 y.l.length c1)) (by kernel_rfl) (by kernel_rfl) (by kernel_rfl) (by kernel_rfl) fun L hL=>?_
 have nX:=ah (show Chg [] w W2.drew from HC.out.drew)
 have hSD:=ah (show KB W2.drew w.heap.size x (.slice A0 x.l.length c0)∧KB W2.drew (w.heap.size+1) y (.slice A1 y.l.length c1) from hS)
 clear hS
 generalize W2.drew = WD at nX hSD ⊢
 have hS:=hSD.out
 have hwd:w.heap.size+1 < WD.heap.size:=hS.2.lt
 simp only [List.mem_cons,List.mem_nil_iff,or_false] at hL
 rcases hL with rfl | rfl
 ·simp only [dt,List.filterMap_cons,List.filterMap_nil,List.getElem?_cons_succ,List.getElem?_cons_zero]
  go_wp2_with (first|refine al 47 _ rfl rfl (fun w' J=>KB.load J.1) hS ?_|refine al 47 _ rfl rfl (fun w' J=>KB.load J.2) hS ?_|refine av fun K I=>?_|refine ai fun K I=>?_;go_simp;refine I _ _ ?_;clear I K|refine ao fun K I=>?_;go_simp|refine aj ?_)
  (refine aw hS fun K I=>?_)
  refine oy rfl ?_
  have kT:KB (WD.alloc (.cells (clc zCl zV) 47)) w.heap.size x (.slice A0 x.l.length c0)∧KB (WD.alloc (.cells (clc zCl zV) 47)) (w.heap.size+1) y (.slice A1 y.l.length c1):=⟨Blk.alloc hS.1 _,Blk.alloc hS.2 _⟩
  refine I _ _ kT ?_
  clear I K
  (refine aw kT fun K I=>?_)
  refine oy rfl ?_
  rw [af]
  have kM:KB ((WD.alloc (.cells (clc zCl zV) 47)).alloc (.cells (clc zCl zV) 47)) w.heap.size x (.slice A0 x.l.length c0)∧KB ((WD.alloc (.cells (clc zCl zV) 47)).alloc (.cells (clc zCl zV) 47)) (w.heap.size+1) y (.slice A1 y.l.length c1):=⟨Blk.alloc kT.1 _,Blk.alloc kT.2 _⟩
  have zG:KB ((WD.alloc (.cells (clc zCl zV) 47)).alloc (.cells (clc zCl zV) 47)) WD.heap.size zCl zV:=(Blk.new WD 47 _).alloc _
  have tI:KB ((WD.alloc (.cells (clc zCl zV) 47)).alloc (.cells (clc zCl zV) 47)) (WD.heap.size+1) zCl zV:=by
   have:=Blk.new (WD.alloc (.cells (clc zCl zV) 47)) 47 (clc zCl zV)
   rwa [af] at this
  have FR:Chg [] w ((WD.alloc (.cells (clc zCl zV) 47)).alloc (.cells (clc zCl zV) 47)):=(nX.out.alloc _).alloc _
  refine I _ _ kM ?_
  clear I K kT
  generalize (WD.alloc (.cells (clc zCl zV) 47)).alloc (.cells (clc zCl zV) 47) = WN at kM zG tI FR ⊢
  go_simp
  (refine aw kM fun K I=>?_)
  refine pc (b:=WD.heap.size) (y:=x) (u:=.slice A0 x.l.length c0) _ _ rfl rfl rfl rfl zG ?_
  intro W5 h5 U
  have nO:KB W5 w.heap.size x (.slice A0 x.l.length c0)∧KB W5 (w.heap.size+1) y (.slice A1 y.l.length c1):=⟨Blk.chg kM.1 U (by simp only [List.mem_singleton];omega),Blk.chg kM.2 U (by simp only [List.mem_singleton];omega)⟩
  have h6:KB W5 (WD.heap.size+1) zCl zV:=Blk.chg tI U (by simp only [List.mem_singleton];omega)
  have Da:Chg [] w W5:=FR.trans U (fun z hz=>.inr (by obtain rfl:=aa hz;omega))
  refine I _ _ nO ?_
  clear I K kM U
  go_simp
  (refine aw nO fun K I=>?_)
  refine pc (b:=WD.heap.size+1) (y:=y) (u:=.slice A1 y.l.length c1) _ _ rfl rfl rfl rfl h6 ?_
  intro W6 h7 iZ
  have hS6:KB W6 w.heap.size x (.slice A0 x.l.length c0)∧KB W6 (w.heap.size+1) y (.slice A1 y.l.length c1):=⟨Blk.chg nO.1 iZ (by simp only [List.mem_singleton];omega),Blk.chg nO.2 iZ (by simp only [List.mem_singleton];omega)⟩
  have FF:KB W6 (WD.heap.size) x (.slice A0 x.l.length c0):=Blk.chg h5 iZ (by simp only [List.mem_singleton];omega)
  have Db:Chg [] w W6:=Da.trans iZ (fun z hz=>.inr (by obtain rfl:=aa hz;omega))
  refine I _ _ hS6 ?_
  clear I K
  go_simp
  refine aj ?_
  exact key _ _ _ FF h7 Db
 ·simp only [dt,List.filterMap_cons,List.filterMap_nil,List.getElem?_cons_succ,List.getElem?_cons_zero]
  go_wp2_with (first|refine al 47 _ rfl rfl (fun w' J=>KB.load J.1) hS ?_|refine al 47 _ rfl rfl (fun w' J=>KB.load J.2) hS ?_|refine av fun K I=>?_|refine ai fun K I=>?_;go_simp;refine I _ _ ?_;clear I K|refine ao fun K I=>?_;go_simp|refine aj ?_)
  (refine aw hS fun K I=>?_)
  refine oy rfl ?_
  have kT:KB (WD.alloc (.cells (clc zCl zV) 47)) w.heap.size x (.slice A0 x.l.length c0)∧KB (WD.alloc (.cells (clc zCl zV) 47)) (w.heap.size+1) y (.slice A1 y.l.length c1):=⟨Blk.alloc hS.1 _,Blk.alloc hS.2 _⟩
  refine I _ _ kT ?_
  clear I K
  (refine aw kT fun K I=>?_)
  refine oy rfl ?_
  rw [af]
  have kM:KB ((WD.alloc (.cells (clc zCl zV) 47)).alloc (.cells (clc zCl zV) 47)) w.heap.size x (.slice A0 x.l.length c0)∧KB ((WD.alloc (.cells (clc zCl zV) 47)).alloc (.cells (clc zCl zV) 47)) (w.heap.size+1) y (.slice A1 y.l.length c1):=⟨Blk.alloc kT.1 _,Blk.alloc kT.2 _⟩
  have zG:KB ((WD.alloc (.cells (clc zCl zV) 47)).alloc (.cells (clc zCl zV) 47)) WD.heap.size zCl zV:=(Blk.new WD 47 _).alloc _
  have tI:KB ((WD.alloc (.cells (clc zCl zV) 47)).alloc (.cells (clc zCl zV) 47)) (WD.heap.size+1) zCl zV:=by
   have:=Blk.new (WD.alloc (.cells (clc zCl zV) 47)) 47 (clc zCl zV)
   rwa [af] at this
  have FR:Chg [] w ((WD.alloc (.cells (clc zCl zV) 47)).alloc (.cells (clc zCl zV) 47)):=(nX.out.alloc _).alloc _
  refine I _ _ kM ?_
  clear I K kT
  generalize (WD.alloc (.cells (clc zCl zV) 47)).alloc (.cells (clc zCl zV) 47) = WN at kM zG tI FR ⊢
  go_simp
  (refine aw kM fun K I=>?_)
  refine pc (b:=WD.heap.size+1) (y:=x) (u:=.slice A0 x.l.length c0) _ _ rfl rfl rfl rfl tI ?_
  intro W5 h5 U
  have nO:KB W5 w.heap.size x (.slice A0 x.l.length c0)∧KB W5 (w.heap.size+1) y (.slice A1 y.l.length c1):=⟨Blk.chg kM.1 U (by simp only [List.mem_singleton];omega),Blk.chg kM.2 U (by simp only [List.mem_singleton];omega)⟩
  have h6:KB W5 (WD.heap.size) zCl zV:=Blk.chg zG U (by simp only [List.mem_singleton];omega)
  have Da:Chg [] w W5:=FR.trans U (fun z hz=>.inr (by obtain rfl:=aa hz;omega))
  refine I _ _ nO ?_
  clear I K kM U
  go_simp
  (refine aw nO fun K I=>?_)
  refine pc (b:=WD.heap.size) (y:=y) (u:=.slice A1 y.l.length c1) _ _ rfl rfl rfl rfl h6 ?_
  intro W6 h7 iZ
  have hS6:KB W6 w.heap.size x (.slice A0 x.l.length c0)∧KB W6 (w.heap.size+1) y (.slice A1 y.l.length c1):=⟨Blk.chg nO.1 iZ (by simp only [List.mem_singleton];omega),Blk.chg nO.2 iZ (by simp only [List.mem_singleton];omega)⟩
  have FF:KB W6 (WD.heap.size+1) x (.slice A0 x.l.length c0):=Blk.chg h5 iZ (by simp only [List.mem_singleton];omega)
  have Db:Chg [] w W6:=Da.trans iZ (fun z hz=>.inr (by obtain rfl:=aa hz;omega))
  refine I _ _ hS6 ?_
  clear I K
  go_simp
  refine aj ?_
  exact key _ _ _ FF h7 Db
end Go.Proofs.YtfoleblcaloeoaaGreatDoor
