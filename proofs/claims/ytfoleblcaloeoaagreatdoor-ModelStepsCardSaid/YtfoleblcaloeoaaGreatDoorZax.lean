import Derived.Test.YtfoleblcaloeoaaGreatDoorZaj
set_option maxHeartbeats 40000000
set_option maxRecDepth 20000
namespace Go.Proofs.YtfoleblcaloeoaaGreatDoor
open Go Go.RowKit
variable {Q:Exit→Act→World→Prop} {K:Act→World→Prop} {w:World} {o:Oper}
theorem qk {a:Act} (ho:o.op = .alloc 47) (h:K (a.put o.dst (.pointer (some ⟨w.heap.size,0,none⟩))) (w.alloc (.cells (clc zCl zV) 47))):o.wp Tryz.prog a w K Q:=by unfold Oper.wp execOp;simp only [ho,Sem.run_bind,vr,Sem.run_pure,Result.andThen_ok];exact h
theorem qr {a:Act} {b:Nat} {x y:Cl} {v u:Value} (z t:Operand) (ho:o.op = .store 47 z t) (hx:a.eval z = .pointer (some ⟨b,0,none⟩)) (hy:a.eval t = .agg (clc y u)) (hu:u.oneCell' = true) (h0:KB w b x v)
  (h:∀w',KB w' b y u→Chg [b] w w'→K (a.put o.dst undef) w'):o.wp Tryz.prog a w K Q :=
 wp_store_row 47 z t ho b _ hx hy 47 _ h0 fq rfl (gV y hu) (h _ (setRow_heap w b _ _ _ _ h0) ((av [b] w).setRow (.inl (by simp)) _))
theorem aQ {x y:Cl} {v u:Value} (hv:RB w v x.l) (hu:RB w u y.l) (hl:∀b∈x.l,b < 256) (hm:∀b∈y.l,b < 256) :
  Calls Tryz.prog 103 #[.agg (clc x v),.agg (clc y u)] w fun e w'=>e = .returned (.bool (dx x y))∧Chg [] w w':=by
 obtain ⟨A0,c0,rfl⟩:=RE.form hv;obtain ⟨A1,c1,rfl⟩:=RE.form hu;obtain ⟨VX,hVX⟩:∃V:Array Value,V = clc x (.slice A0 x.l.length c0):=⟨_,rfl⟩;obtain ⟨VY,hVY⟩:∃V:Array Value,V = clc y (.slice A1 y.l.length c1):=⟨_,rfl⟩;obtain ⟨W2,kJ⟩:∃W2,W2 = (w.alloc (.cells (clc x (.slice A0 x.l.length c0)) 47)).alloc (.cells (clc y (.slice A1 y.l.length c1)) 47):=⟨_,rfl⟩;have kI:Chg [] w W2:=by rw [kJ];exact ((av [] w).alloc _).alloc _
 have lH:KB W2 w.heap.size x (.slice A0 x.l.length c0):=by rw [kJ];exact (ax w 47 _).alloc _
 have lV:KB W2 (w.heap.size+1) y (.slice A1 y.l.length c1):=by
  have:=ax (w.alloc (.cells (clc x (.slice A0 x.l.length c0)) 47)) 47 (clc y (.slice A1 y.l.length c1));rw [af] at this;rw [kJ];exact this
 have HB:=bk (ai lH lV);have HC:=bk kI;have kW:=bk kJ;have HV:=bk (ai hv hu);have HL:=bk (ai hl hm);clear hv hu hl hm kI lH lV kJ hVX hVY VX VY;go_enter Tryz.func103,Tryz.ntmps103;go_wp2_with (first|refine cc rfl _ rfl rfl ?_;try simp only [af];try rw [← kW.out]);rename_i K0 hK0;have key:∀(b5 b6:Nat) (W:World),KB W b5 x (.slice A0 x.l.length c0)→KB W b6 y (.slice A1 y.l.length c1)→Chg [] w W →
   K0 { tmps:=#[.agg (clc x (.slice A0 x.l.length c0)),.agg (clc y (.slice A1 y.l.length c1)),.pointer (some ⟨w.heap.size,0,none⟩),.pointer (some ⟨w.heap.size+1,0,none⟩),.bool false,.pointer (some ⟨b5,0,none⟩),.pointer (some ⟨b6,0,none⟩),.agg (clc x (.slice A0 x.l.length c0)),.agg (clc y (.slice A1 y.l.length c1)),undef,undef,undef,undef,undef,undef,undef,undef,undef,undef,undef,undef,undef,undef,undef,undef,undef,undef,undef,undef,undef,undef,undef,undef,undef,undef,undef,undef,undef,undef,undef,undef,undef,undef,undef,undef,undef,undef,undef,undef,undef,undef,undef,undef,undef,undef,undef,undef,undef,undef,undef,undef,undef,undef,undef,undef,undef,undef,undef,undef,undef,undef,undef,undef,undef,undef,undef,undef,undef,undef,undef,undef,undef,undef,undef,undef,undef],defers:=[] } W:=by
  intro b5 b6 W hx hy hc
  have Cp:=nr (HV.out.1.stay hc) HL.out.1
  have By:=nr (HV.out.2.stay hc) HL.out.2
  have tE:=vf HL.out.1 HL.out.2
  have pX:=bk hc
  obtain ⟨c1',c2',c3',c4',c5',c6',c7',c8',c9',c10',c11',c12',cl',cf'⟩:=ay hx
  obtain ⟨d1',d2',d3',d4',d5',d6',d7',d8',d9',d10',d11',d12',dl',df'⟩:=ay hy
  clear hx hy hc cf' df' HV HL HB HC kW
  obtain ⟨k,p,n,g,c,a,s,r,ok,om,h,l⟩:=x
  obtain ⟨k',p',n',g',c',a',s',r',ok',om',h',l'⟩:=y
  simp only at c1' c2' c3' c4' c5' c6' c7' c8' c9' c10' c11' c12' d1' d2' d3' d4' d5' d6' d7' d8' d9' d10' d11' d12' Cp By tE
  by_cases sV:l = l'
  ·subst sV;rw [ae rfl] at tE;generalize ft l = sx at Cp By tE;by_cases z:¬ (k = k')
   ·have j1:(k == k') = false:=aj z;have j2:decide (k = k') = false:=ac z;have j3:((k:Int) == (k':Int)) = false:=aj (by omega);have j4:decide ((k:Int) = (k':Int)) = false:=ac (by omega);have hs:dx ⟨k,p,n,g,c,a,s,r,ok,om,h,l⟩ ⟨k',p',n',g',c',a',s',r',ok',om',h',l⟩ = false:=(by simp [dx,j1]);have rD:=bk hs;clear hs;refine hK0 _ _ ?_;go_wp2_with fail
    all_goals (go_ret;exact ⟨by rw [rD.out];rfl,pX.out⟩)
   replace z:=Classical.not_not.1 z;subst z;by_cases z:¬ (p = p')
   ·have j1:(p == p') = false:=aj z;have j2:decide (p = p') = false:=ac z;have hs:dx ⟨k,p,n,g,c,a,s,r,ok,om,h,l⟩ ⟨k,p',n',g',c',a',s',r',ok',om',h',l⟩ = false:=(by simp [dx,j1]);have rD:=bk hs;clear hs;refine hK0 _ _ ?_;go_wp2_with fail
    all_goals (go_ret;exact ⟨by rw [rD.out];rfl,pX.out⟩)
   replace z:=Classical.not_not.1 z;subst z;by_cases z:¬ (n = n')
   ·have j1:(n == n') = false:=aj z;have j2:decide (n = n') = false:=ac z;have hs:dx ⟨k,p,n,g,c,a,s,r,ok,om,h,l⟩ ⟨k,p,n',g',c',a',s',r',ok',om',h',l⟩ = false:=(by simp [dx,j1]);have rD:=bk hs;clear hs;refine hK0 _ _ ?_;go_wp2_with fail
    all_goals (go_ret;exact ⟨by rw [rD.out];rfl,pX.out⟩)
   replace z:=Classical.not_not.1 z;subst z;by_cases z:¬ (g = g')
   ·have j1:(g == g') = false:=aj z;have j2:decide (g = g') = false:=ac z;have hs:dx ⟨k,p,n,g,c,a,s,r,ok,om,h,l⟩ ⟨k,p,n,g',c',a',s',r',ok',om',h',l⟩ = false:=(by simp [dx,j1]);have rD:=bk hs;clear hs;refine hK0 _ _ ?_;go_wp2_with fail
    all_goals (go_ret;exact ⟨by rw [rD.out];rfl,pX.out⟩)
   replace z:=Classical.not_not.1 z;subst z;by_cases z:¬ (c = c')
   ·have j1:(c == c') = false:=aj z;have j2:decide (c = c') = false:=ac z;have hs:dx ⟨k,p,n,g,c,a,s,r,ok,om,h,l⟩ ⟨k,p,n,g,c',a',s',r',ok',om',h',l⟩ = false:=(by simp [dx,j1]);have rD:=bk hs;clear hs;refine hK0 _ _ ?_;go_wp2_with fail
    all_goals (go_ret;exact ⟨by rw [rD.out];rfl,pX.out⟩)
   replace z:=Classical.not_not.1 z;subst z;by_cases z:¬ (a = a')
   ·have j1:(a == a') = false:=aj z;have j2:decide (a = a') = false:=ac z;have hs:dx ⟨k,p,n,g,c,a,s,r,ok,om,h,l⟩ ⟨k,p,n,g,c,a',s',r',ok',om',h',l⟩ = false:=(by simp [dx,j1]);have rD:=bk hs;clear hs;refine hK0 _ _ ?_;go_wp2_with fail
    all_goals (go_ret;exact ⟨by rw [rD.out];rfl,pX.out⟩)
   replace z:=Classical.not_not.1 z;subst z;by_cases z:¬ (s = s')
   ·have j1:(s == s') = false:=aj z;have j2:decide (s = s') = false:=ac z;have hs:dx ⟨k,p,n,g,c,a,s,r,ok,om,h,l⟩ ⟨k,p,n,g,c,a,s',r',ok',om',h',l⟩ = false:=(by simp [dx,j1]);have rD:=bk hs;clear hs;refine hK0 _ _ ?_;go_wp2_with fail
    all_goals (go_ret;exact ⟨by rw [rD.out];rfl,pX.out⟩)
   replace z:=Classical.not_not.1 z;subst z;by_cases z:¬ (r = r')
   ·have j1:(r == r') = false:=aj z;have j2:decide (r = r') = false:=ac z;have j3:((r:Int) == (r':Int)) = false:=aj (by omega);have j4:decide ((r:Int) = (r':Int)) = false:=ac (by omega);have hs:dx ⟨k,p,n,g,c,a,s,r,ok,om,h,l⟩ ⟨k,p,n,g,c,a,s,r',ok',om',h',l⟩ = false:=(by simp [dx,j1]);have rD:=bk hs;clear hs;refine hK0 _ _ ?_;go_wp2_with fail
    all_goals (go_ret;exact ⟨by rw [rD.out];rfl,pX.out⟩)
   replace z:=Classical.not_not.1 z;subst z;by_cases z:¬ (ok = ok'∧om = om')
   ·have hz:((ok:Int) == (ok':Int) && (om:Int) == (om':Int)) = false:=by
     cases hq:((ok:Int) == (ok':Int) && (om:Int) == (om':Int)) with
     | false=>rfl
     | true =>
      rw [Bool.and_eq_true,beq_iff_eq,beq_iff_eq] at hq;exact absurd ⟨by omega,by omega⟩ z
    have yI:∀W,(Op.equalIn 10000 45 (.agg #[.int .u8 ok,.int .u8 om]) (.agg #[.int .u8 ok',.int .u8 om'])).run Tryz.prog W = .ok false W:=fun W=>by rw [← hz];exact pp W _ _ _ _
    clear hz;have hs:dx ⟨k,p,n,g,c,a,s,r,ok,om,h,l⟩ ⟨k,p,n,g,c,a,s,r,ok',om',h',l⟩ = false:=(by simp [dx];intro q1 q2;exact absurd ⟨q1,q2⟩ z);have rD:=bk hs;clear hs;refine hK0 _ _ ?_;go_wp2_with fail
    all_goals (go_ret;exact ⟨by rw [rD.out];rfl,pX.out⟩)
   obtain ⟨rfl,rfl⟩:=Classical.not_not.1 z;by_cases z:¬ (h = h')
   ·have yI:∀W,(Op.equalIn 10000 45 (.agg #[.int .u8 ok,.int .u8 om]) (.agg #[.int .u8 ok,.int .u8 om])).run Tryz.prog W = .ok true W:=fun W=>by rw [show true = ((ok:Int) == (ok:Int) && (om:Int) == (om:Int)) by simp];exact pp W _ _ _ _
    have j1:(h == h') = false:=aj z;have j2:decide (h = h') = false:=ac z;have j3:((h:Int) == (h':Int)) = false:=aj (by omega);have j4:decide ((h:Int) = (h':Int)) = false:=ac (by omega);have hs:dx ⟨k,p,n,g,c,a,s,r,ok,om,h,l⟩ ⟨k,p,n,g,c,a,s,r,ok,om,h',l⟩ = false:=(by simp [dx,j1]);have rD:=bk hs;clear hs;refine hK0 _ _ ?_;go_wp2_with fail
    all_goals (go_ret;exact ⟨by rw [rD.out];rfl,pX.out⟩)
   replace z:=Classical.not_not.1 z;subst z;have rD:=bk (fV ⟨k,p,n,g,c,a,s,r,ok,om,h,l⟩);have yI:∀W,(Op.equalIn 10000 45 (.agg #[.int .u8 ok,.int .u8 om]) (.agg #[.int .u8 ok,.int .u8 om])).run Tryz.prog W = .ok true W:=fun W=>by rw [show true = ((ok:Int) == (ok:Int) && (om:Int) == (om:Int)) by simp];exact pp W _ _ _ _
   refine hK0 _ _ ?_;go_wp2_with fail;go_ret;exact ⟨by rw [rD.out];rfl,pX.out⟩
  ·rw [ac sV] at tE;generalize ft l = sx at Cp tE;generalize ft l' = sy at By tE;have hs:dx ⟨k,p,n,g,c,a,s,r,ok,om,h,l⟩ ⟨k',p',n',g',c',a',s',r',ok',om',h',l'⟩ = false:=(by simp [dx,sV]);have rD:=bk hs;clear hs sV;refine hK0 _ _ ?_;go_wp2_with fail
   all_goals (go_ret;exact ⟨by rw [rD.out];rfl,pX.out⟩)
 have hS:KB W2.drew w.heap.size x (.slice A0 x.l.length c0)∧KB W2.drew (w.heap.size+1) y (.slice A1 y.l.length c1):=⟨HB.out.1.drew,HB.out.2.drew⟩;refine mc [5,5,6,6,6,6] [none,none,none,none,none,none] [[0,1,2,3,4,5],[0,1,3,2,4,5]] (fun W=>KB W w.heap.size x (.slice A0 x.l.length c0)∧KB W (w.heap.size+1) y (.slice A1 y.l.length c1)) (by kernel_rfl) (by kernel_rfl) (by kernel_rfl) (by kernel_rfl) fun L hL=>?_;have oM:=bk (show Chg [] w W2.drew from HC.out.drew);have hSD:=bk (show KB W2.drew w.heap.size x (.slice A0 x.l.length c0)∧KB W2.drew (w.heap.size+1) y (.slice A1 y.l.length c1) from hS);clear hS;generalize W2.drew = WD at oM hSD ⊢;have hS:=hSD.out;have hwd:w.heap.size+1 < WD.heap.size:=hS.2.lt;simp only [List.mem_cons,List.mem_nil_iff,or_false] at hL;rcases hL with rfl | rfl
 ·simp only [fv,List.filterMap_cons,List.filterMap_nil,List.getElem?_cons_succ,List.getElem?_cons_zero];go_wp2_with (first|refine ca 47 _ rfl rfl (fun w' kK=>KB.load kK.1) hS ?_|refine ca 47 _ rfl rfl (fun w' kK=>KB.load kK.2) hS ?_|refine cdA fun K U=>?_|refine bn fun K U=>?_;go_simp|refine bq ?_);(refine cd hS fun K U=>?_);refine qk rfl ?_;have mE:KB (WD.alloc (.cells (clc zCl zV) 47)) w.heap.size x (.slice A0 x.l.length c0)∧KB (WD.alloc (.cells (clc zCl zV) 47)) (w.heap.size+1) y (.slice A1 y.l.length c1):=⟨Blk.alloc hS.1 _,Blk.alloc hS.2 _⟩;refine U _ _ mE ?_;clear U K;(refine cd mE fun K U=>?_);refine qk rfl ?_;rw [af];have lY:KB ((WD.alloc (.cells (clc zCl zV) 47)).alloc (.cells (clc zCl zV) 47)) w.heap.size x (.slice A0 x.l.length c0)∧KB ((WD.alloc (.cells (clc zCl zV) 47)).alloc (.cells (clc zCl zV) 47)) (w.heap.size+1) y (.slice A1 y.l.length c1):=⟨Blk.alloc mE.1 _,Blk.alloc mE.2 _⟩;have AV:KB ((WD.alloc (.cells (clc zCl zV) 47)).alloc (.cells (clc zCl zV) 47)) WD.heap.size zCl zV:=(ax WD 47 _).alloc _;have vC:KB ((WD.alloc (.cells (clc zCl zV) 47)).alloc (.cells (clc zCl zV) 47)) (WD.heap.size+1) zCl zV:=by
   have:=ax (WD.alloc (.cells (clc zCl zV) 47)) 47 (clc zCl zV);rwa [af] at this
  have Hk:Chg [] w ((WD.alloc (.cells (clc zCl zV) 47)).alloc (.cells (clc zCl zV) 47)):=(oM.out.alloc _).alloc _;refine U _ _ lY ?_;clear U K mE;generalize (WD.alloc (.cells (clc zCl zV) 47)).alloc (.cells (clc zCl zV) 47) = WN at lY AV vC Hk ⊢;go_simp;(refine cd lY fun K U=>?_);refine qr (b:=WD.heap.size) (y:=x) (u:=.slice A0 x.l.length c0) _ _ rfl rfl rfl rfl AV ?_;intro W5 h5 kE;have pB:KB W5 w.heap.size x (.slice A0 x.l.length c0)∧KB W5 (w.heap.size+1) y (.slice A1 y.l.length c1):=⟨aw lY.1 kE (by simp only [List.mem_singleton];omega),aw lY.2 kE (by simp only [List.mem_singleton];omega)⟩;have h6:KB W5 (WD.heap.size+1) zCl zV:=aw vC kE (by simp only [List.mem_singleton];omega);have Eg:Chg [] w W5:=Hk.trans kE (fun z hz=>.inr (by obtain rfl:=aa hz;omega));refine U _ _ pB ?_;clear U K lY kE;go_simp;(refine cd pB fun K U=>?_);refine qr (b:=WD.heap.size+1) (y:=y) (u:=.slice A1 y.l.length c1) _ _ rfl rfl rfl rfl h6 ?_;intro W6 h7 kF;have hS6:KB W6 w.heap.size x (.slice A0 x.l.length c0)∧KB W6 (w.heap.size+1) y (.slice A1 y.l.length c1):=⟨aw pB.1 kF (by simp only [List.mem_singleton];omega),aw pB.2 kF (by simp only [List.mem_singleton];omega)⟩;have h5':KB W6 (WD.heap.size) x (.slice A0 x.l.length c0):=aw h5 kF (by simp only [List.mem_singleton];omega);have Eh:Chg [] w W6:=Eg.trans kF (fun z hz=>.inr (by obtain rfl:=aa hz;omega));refine U _ _ hS6 ?_;clear U K;go_simp;refine bq ?_;exact key _ _ _ h5' h7 Eh
 ·simp only [fv,List.filterMap_cons,List.filterMap_nil,List.getElem?_cons_succ,List.getElem?_cons_zero];go_wp2_with (first|refine ca 47 _ rfl rfl (fun w' kK=>KB.load kK.1) hS ?_|refine ca 47 _ rfl rfl (fun w' kK=>KB.load kK.2) hS ?_|refine cdA fun K U=>?_|refine bn fun K U=>?_;go_simp|refine bq ?_);(refine cd hS fun K U=>?_);refine qk rfl ?_;have mE:KB (WD.alloc (.cells (clc zCl zV) 47)) w.heap.size x (.slice A0 x.l.length c0)∧KB (WD.alloc (.cells (clc zCl zV) 47)) (w.heap.size+1) y (.slice A1 y.l.length c1):=⟨Blk.alloc hS.1 _,Blk.alloc hS.2 _⟩;refine U _ _ mE ?_;clear U K;(refine cd mE fun K U=>?_);refine qk rfl ?_;rw [af];have lY:KB ((WD.alloc (.cells (clc zCl zV) 47)).alloc (.cells (clc zCl zV) 47)) w.heap.size x (.slice A0 x.l.length c0)∧KB ((WD.alloc (.cells (clc zCl zV) 47)).alloc (.cells (clc zCl zV) 47)) (w.heap.size+1) y (.slice A1 y.l.length c1):=⟨Blk.alloc mE.1 _,Blk.alloc mE.2 _⟩;have AV:KB ((WD.alloc (.cells (clc zCl zV) 47)).alloc (.cells (clc zCl zV) 47)) WD.heap.size zCl zV:=(ax WD 47 _).alloc _;have vC:KB ((WD.alloc (.cells (clc zCl zV) 47)).alloc (.cells (clc zCl zV) 47)) (WD.heap.size+1) zCl zV:=by
   have:=ax (WD.alloc (.cells (clc zCl zV) 47)) 47 (clc zCl zV);rwa [af] at this
  have Hk:Chg [] w ((WD.alloc (.cells (clc zCl zV) 47)).alloc (.cells (clc zCl zV) 47)):=(oM.out.alloc _).alloc _;refine U _ _ lY ?_;clear U K mE;generalize (WD.alloc (.cells (clc zCl zV) 47)).alloc (.cells (clc zCl zV) 47) = WN at lY AV vC Hk ⊢;go_simp;(refine cd lY fun K U=>?_);refine qr (b:=WD.heap.size+1) (y:=x) (u:=.slice A0 x.l.length c0) _ _ rfl rfl rfl rfl vC ?_;intro W5 h5 kE;have pB:KB W5 w.heap.size x (.slice A0 x.l.length c0)∧KB W5 (w.heap.size+1) y (.slice A1 y.l.length c1):=⟨aw lY.1 kE (by simp only [List.mem_singleton];omega),aw lY.2 kE (by simp only [List.mem_singleton];omega)⟩;have h6:KB W5 (WD.heap.size) zCl zV:=aw AV kE (by simp only [List.mem_singleton];omega);have Eg:Chg [] w W5:=Hk.trans kE (fun z hz=>.inr (by obtain rfl:=aa hz;omega));refine U _ _ pB ?_;clear U K lY kE;go_simp;(refine cd pB fun K U=>?_);refine qr (b:=WD.heap.size) (y:=y) (u:=.slice A1 y.l.length c1) _ _ rfl rfl rfl rfl h6 ?_;intro W6 h7 kF;have hS6:KB W6 w.heap.size x (.slice A0 x.l.length c0)∧KB W6 (w.heap.size+1) y (.slice A1 y.l.length c1):=⟨aw pB.1 kF (by simp only [List.mem_singleton];omega),aw pB.2 kF (by simp only [List.mem_singleton];omega)⟩;have h5':KB W6 (WD.heap.size+1) x (.slice A0 x.l.length c0):=aw h5 kF (by simp only [List.mem_singleton];omega);have Eh:Chg [] w W6:=Eg.trans kF (fun z hz=>.inr (by obtain rfl:=aa hz;omega));refine U _ _ hS6 ?_;clear U K;go_simp;refine bq ?_;exact key _ _ _ h5' h7 Eh
