import Derived.Test.YtfoleblcaloeoaaGreatDoorZad
set_option maxHeartbeats 40000000
set_option maxRecDepth 20000
namespace Go.Proofs.YtfoleblcaloeoaaGreatDoor
open Go Go.RowKit
variable {w:World}
theorem zu {v u:Value} {l m:List Nat} (hv:RB w v l) (hu:RB w u m) (hl:∀b∈l,b < 256) (hm:∀b∈m,b < 256):Calls Tryz.prog 46 #[v,u] w fun e w'=>e = .returned (.bool (decide (l = m)))∧w = w':=by have h1:=nr hv hl;have h2:=nr hu hm;rw [← vf hl hm];generalize ft l = s at h1 ⊢;generalize ft m = t at h2 ⊢;clear hv hu hl hm;go_enter Tryz.func46,Tryz.ntmps46;go_wp2_with fail;go_ret;exact ⟨rfl,rfl⟩
theorem eq_pol (w:World) (a b c d:Int):(binOp .eql 45 (.agg #[.int .u8 a,.int .u8 b]) (.agg #[.int .u8 c,.int .u8 d])).run Tryz.prog w = .ok (.bool (a == c && b == d)) w:=by
 have hf:((Tryz.prog.fieldsOf 45).toList.map fun f=>(f.type,f.offset,f.name)) = [(43,0,"Kind"),(5,1,"Mask")]:=by kernel_rfl
 rw [run_eql_struct,run_equalIn_agg _ _ _ _ _ (by kernel_rfl) (by kernel_rfl)];generalize (Tryz.prog.fieldsOf 45).toList = fs at hf ⊢;have hq:∀(a b:Int) (w:World),(Op.equalIn 9999 43 (.int .u8 a) (.int .u8 b)).run Tryz.prog w = .ok (a == b) w:=fun a b w=>run_equalIn_int w 9998 43 .u8 .u8 a b Tryz.underlying43;have hq5:∀(a b:Int) (w:World),(Op.equalIn 9999 5 (.int .u8 a) (.int .u8 b)).run Tryz.prog w = .ok (a == b) w:=fun a b w=>run_equalIn_int w 9998 5 .u8 .u8 a b Tryz.underlying5;rcases fs with _ | ⟨f1,_ | ⟨f2,_ | ⟨f3,t⟩⟩⟩
 ·simp at hf
 ·simp at hf
 ·simp only [List.map_cons,List.map_nil,List.cons.injEq,Prod.mk.injEq,and_true] at hf;obtain ⟨⟨h1,h2,h3⟩,h4,h5,h6⟩:=hf;cases Ha:(a == c) <;> cases Ee:(b == d) <;> simp [Op.eqFields,h1,h2,h3,h4,h5,h6,part,isAgg,run_underlying Tryz.underlying43,run_underlying Tryz.underlying5,hq,hq5,Ha,Ee]
 ·simp at hf
theorem pp (w:World) (a b c d:Int):(Op.equalIn 10000 45 (.agg #[.int .u8 a,.int .u8 b]) (.agg #[.int .u8 c,.int .u8 d])).run Tryz.prog w = .ok (a == c && b == d) w:=by
 have h:=eq_pol w a b c d;rw [run_eql_struct] at h;cases hq:(Op.equalIn 10000 45 (.agg #[.int .u8 a,.int .u8 b]) (.agg #[.int .u8 c,.int .u8 d])).run Tryz.prog w with
 | ok r w' =>rw [hq] at h;simp at h;obtain ⟨rfl,rfl⟩:=h;rfl
 | halt x w'=>rw [hq] at h;simp at h
def dx (x y:Cl):Bool:=x.k == y.k && x.p == y.p && x.n == y.n && x.g == y.g && x.c == y.c && x.a == y.a && x.s == y.s && x.r == y.r && x.ok == y.ok && x.om == y.om && x.h == y.h && decide (x.l = y.l)
theorem ox (x y:Cl):dx x y = true↔x = y:=by obtain ⟨k,p,n,g,c,a,s,r,ok,om,h,l⟩:=x;obtain ⟨k',p',n',g',c',a',s',r',ok',om',h',l'⟩:=y;simp [dx,and_assoc]
theorem fV (x:Cl):dx x x = true:=(ox x x).2 rfl
theorem iR {x y:Cl} {v u:Value} (hv:RB w v x.l) (hu:RB w u y.l) (hl:∀b∈x.l,b < 256) (hm:∀b∈y.l,b < 256) :
  Calls Tryz.prog 86 #[.agg (clc x v),.agg (clc y u)] w fun e w'=>e = .returned (.bool (dx x y))∧Chg [] w w':=by
 obtain ⟨A0,c0,rfl⟩:=RE.form hv;obtain ⟨A1,c1,rfl⟩:=RE.form hu;obtain ⟨W2,kJ⟩:∃W2,W2 = (w.alloc (.cells (clc x (.slice A0 x.l.length c0)) 47)).alloc (.cells (clc y (.slice A1 y.l.length c1)) 47):=⟨_,rfl⟩;have kI:Chg [] w W2:=by rw [kJ];exact ((av [] w).alloc _).alloc _
 have lH:KB W2 w.heap.size x (.slice A0 x.l.length c0):=by rw [kJ];exact (ax w 47 _).alloc _
 have lV:KB W2 (w.heap.size+1) y (.slice A1 y.l.length c1):=by
  have:=ax (w.alloc (.cells (clc x (.slice A0 x.l.length c0)) 47)) 47 (clc y (.slice A1 y.l.length c1));rw [af] at this;rw [kJ];exact this
 have HE:=bk (zu (hv.stay kI) (hu.stay kI) hl hm);have HC:=bk kI;obtain ⟨c1',c2',c3',c4',c5',c6',c7',c8',c9',c10',c11',c12',cl',cf'⟩:=lH.cells;obtain ⟨d1',d2',d3',d4',d5',d6',d7',d8',d9',d10',d11',d12',dl',df'⟩:=lV.cells;have kW:=bk kJ;clear hv hu hl hm kI lH lV kJ cf' df';obtain ⟨k,p,n,g,c,a,s,r,ok,om,h,l⟩:=x;obtain ⟨k',p',n',g',c',a',s',r',ok',om',h',l'⟩:=y;simp only at c1' c2' c3' c4' c5' c6' c7' c8' c9' c10' c11' c12' d1' d2' d3' d4' d5' d6' d7' d8' d9' d10' d11' d12' HE kW;by_cases z:¬ ( k = k')
 ·have j1:(k == k') = false:=aj z;have j2:decide (k = k') = false:=ac z;have j3:((k:Int) == (k':Int)) = false:=aj (by omega);have j4:decide ((k:Int) = (k':Int)) = false:=ac (by omega);have hs:dx ⟨k,p,n,g,c,a,s,r,ok,om,h,l⟩ ⟨k',p',n',g',c',a',s',r',ok',om',h',l'⟩ = false:=by simp [dx,j1]
  rw [hs];clear hs;go_enter Tryz.func86,Tryz.ntmps86;go_wp2_with (first|refine cc rfl _ rfl rfl ?_;try simp only [af];try rw [← kW.out])
  all_goals (go_ret;exact ⟨rfl,HC.out⟩)
 replace z:=Classical.not_not.1 z;subst z;by_cases z:¬ ( p = p')
 ·have j1:(p == p') = false:=aj z;have j2:decide (p = p') = false:=ac z;have hs:dx ⟨k,p,n,g,c,a,s,r,ok,om,h,l⟩ ⟨k,p',n',g',c',a',s',r',ok',om',h',l'⟩ = false:=by simp [dx,j1]
  rw [hs];clear hs;go_enter Tryz.func86,Tryz.ntmps86;go_wp2_with (first|refine cc rfl _ rfl rfl ?_;try simp only [af];try rw [← kW.out])
  all_goals (go_ret;exact ⟨rfl,HC.out⟩)
 replace z:=Classical.not_not.1 z;subst z;by_cases z:¬ ( n = n')
 ·have j1:(n == n') = false:=aj z;have j2:decide (n = n') = false:=ac z;have hs:dx ⟨k,p,n,g,c,a,s,r,ok,om,h,l⟩ ⟨k,p,n',g',c',a',s',r',ok',om',h',l'⟩ = false:=by simp [dx,j1]
  rw [hs];clear hs;go_enter Tryz.func86,Tryz.ntmps86;go_wp2_with (first|refine cc rfl _ rfl rfl ?_;try simp only [af];try rw [← kW.out])
  all_goals (go_ret;exact ⟨rfl,HC.out⟩)
 replace z:=Classical.not_not.1 z;subst z;by_cases z:¬ ( g = g')
 ·have j1:(g == g') = false:=aj z;have j2:decide (g = g') = false:=ac z;have hs:dx ⟨k,p,n,g,c,a,s,r,ok,om,h,l⟩ ⟨k,p,n,g',c',a',s',r',ok',om',h',l'⟩ = false:=by simp [dx,j1]
  rw [hs];clear hs;go_enter Tryz.func86,Tryz.ntmps86;go_wp2_with (first|refine cc rfl _ rfl rfl ?_;try simp only [af];try rw [← kW.out])
  all_goals (go_ret;exact ⟨rfl,HC.out⟩)
 replace z:=Classical.not_not.1 z;subst z;by_cases z:¬ ( c = c')
 ·have j1:(c == c') = false:=aj z;have j2:decide (c = c') = false:=ac z;have hs:dx ⟨k,p,n,g,c,a,s,r,ok,om,h,l⟩ ⟨k,p,n,g,c',a',s',r',ok',om',h',l'⟩ = false:=by simp [dx,j1]
  rw [hs];clear hs;go_enter Tryz.func86,Tryz.ntmps86;go_wp2_with (first|refine cc rfl _ rfl rfl ?_;try simp only [af];try rw [← kW.out])
  all_goals (go_ret;exact ⟨rfl,HC.out⟩)
 replace z:=Classical.not_not.1 z;subst z;by_cases z:¬ ( a = a')
 ·have j1:(a == a') = false:=aj z;have j2:decide (a = a') = false:=ac z;have hs:dx ⟨k,p,n,g,c,a,s,r,ok,om,h,l⟩ ⟨k,p,n,g,c,a',s',r',ok',om',h',l'⟩ = false:=by simp [dx,j1]
  rw [hs];clear hs;go_enter Tryz.func86,Tryz.ntmps86;go_wp2_with (first|refine cc rfl _ rfl rfl ?_;try simp only [af];try rw [← kW.out])
  all_goals (go_ret;exact ⟨rfl,HC.out⟩)
 replace z:=Classical.not_not.1 z;subst z;by_cases z:¬ ( s = s')
 ·have j1:(s == s') = false:=aj z;have j2:decide (s = s') = false:=ac z;have hs:dx ⟨k,p,n,g,c,a,s,r,ok,om,h,l⟩ ⟨k,p,n,g,c,a,s',r',ok',om',h',l'⟩ = false:=by simp [dx,j1]
  rw [hs];clear hs;go_enter Tryz.func86,Tryz.ntmps86;go_wp2_with (first|refine cc rfl _ rfl rfl ?_;try simp only [af];try rw [← kW.out])
  all_goals (go_ret;exact ⟨rfl,HC.out⟩)
 replace z:=Classical.not_not.1 z;subst z;by_cases z:¬ ( r = r')
 ·have j1:(r == r') = false:=aj z;have j2:decide (r = r') = false:=ac z;have j3:((r:Int) == (r':Int)) = false:=aj (by omega);have j4:decide ((r:Int) = (r':Int)) = false:=ac (by omega);have hs:dx ⟨k,p,n,g,c,a,s,r,ok,om,h,l⟩ ⟨k,p,n,g,c,a,s,r',ok',om',h',l'⟩ = false:=by simp [dx,j1]
  rw [hs];clear hs;go_enter Tryz.func86,Tryz.ntmps86;go_wp2_with (first|refine cc rfl _ rfl rfl ?_;try simp only [af];try rw [← kW.out])
  all_goals (go_ret;exact ⟨rfl,HC.out⟩)
 replace z:=Classical.not_not.1 z;subst z;by_cases z:¬ ( ok = ok'∧om = om')
 ·have hz:((ok:Int) == (ok':Int) && (om:Int) == (om':Int)) = false:=by
   cases hq:((ok:Int) == (ok':Int) && (om:Int) == (om':Int)) with
   | false=>rfl
   | true =>
    rw [Bool.and_eq_true,beq_iff_eq,beq_iff_eq] at hq;exact absurd ⟨by omega,by omega⟩ z
  have yI:∀W,(Op.equalIn 10000 45 (.agg #[.int .u8 ok,.int .u8 om]) (.agg #[.int .u8 ok',.int .u8 om'])).run Tryz.prog W = .ok false W:=fun W=>by rw [← hz];exact pp W _ _ _ _
  clear hz;have hs:dx ⟨k,p,n,g,c,a,s,r,ok,om,h,l⟩ ⟨k,p,n,g,c,a,s,r,ok',om',h',l'⟩ = false:=by simp [dx];intro q1 q2;exact absurd ⟨q1,q2⟩ z
  rw [hs];clear hs;go_enter Tryz.func86,Tryz.ntmps86;go_wp2_with (first|refine cc rfl _ rfl rfl ?_;try simp only [af];try rw [← kW.out])
  all_goals (go_ret;exact ⟨rfl,HC.out⟩)
 obtain ⟨rfl,rfl⟩:=Classical.not_not.1 z;by_cases z:¬ ( h = h')
 ·have yI:∀W,(Op.equalIn 10000 45 (.agg #[.int .u8 ok,.int .u8 om]) (.agg #[.int .u8 ok,.int .u8 om])).run Tryz.prog W = .ok true W:=fun W=>by rw [show true = ((ok:Int) == (ok:Int) && (om:Int) == (om:Int)) by simp];exact pp W _ _ _ _
  have j1:(h == h') = false:=aj z;have j2:decide (h = h') = false:=ac z;have j3:((h:Int) == (h':Int)) = false:=aj (by omega);have j4:decide ((h:Int) = (h':Int)) = false:=ac (by omega);have hs:dx ⟨k,p,n,g,c,a,s,r,ok,om,h,l⟩ ⟨k,p,n,g,c,a,s,r,ok,om,h',l'⟩ = false:=by simp [dx,j1]
  rw [hs];clear hs;go_enter Tryz.func86,Tryz.ntmps86;go_wp2_with (first|refine cc rfl _ rfl rfl ?_;try simp only [af];try rw [← kW.out])
  all_goals (go_ret;exact ⟨rfl,HC.out⟩)
 replace z:=Classical.not_not.1 z;subst z;have hs:dx ⟨k,p,n,g,c,a,s,r,ok,om,h,l⟩ ⟨k,p,n,g,c,a,s,r,ok,om,h,l'⟩ = decide (l = l'):=by simp [dx]
 rw [hs];clear hs;have yI:∀W,(Op.equalIn 10000 45 (.agg #[.int .u8 ok,.int .u8 om]) (.agg #[.int .u8 ok,.int .u8 om])).run Tryz.prog W = .ok true W:=fun W=>by rw [show true = ((ok:Int) == (ok:Int) && (om:Int) == (om:Int)) by simp];exact pp W _ _ _ _
 go_enter Tryz.func86,Tryz.ntmps86;go_wp2_with (first|refine cc rfl _ rfl rfl ?_;try simp only [af];try rw [← kW.out]);refine HE.out.mono ?_;rintro e W3 ⟨rfl,rfl⟩;go_wp2_with fail;go_ret;exact ⟨rfl,HC.out⟩
