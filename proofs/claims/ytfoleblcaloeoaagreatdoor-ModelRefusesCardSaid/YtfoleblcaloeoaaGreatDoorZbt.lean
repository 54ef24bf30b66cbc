/- Texts merged for the claim. -/
import Derived.Test.YtfoleblcaloeoaaGreatDoorZbf
import Derived.Test.YtfoleblcaloeoaaGreatDoorZbs
set_option maxHeartbeats 40000000
set_option maxRecDepth 20000
namespace Go.Proofs.YtfoleblcaloeoaaGreatDoor
open Go Go.RowKit
theorem pw {w:World} {v:Value} {L:List Nat} (h:RW w v L) (hp:0 < L.length):∃g off c,v = .slice (some ⟨g,off,none⟩) L.length c∧g < w.heap.size∧∀j,(hj:j < L.length)→w.cell? ⟨g,off+j,none⟩ = some (.int .u64 (L[j]:Nat)):=by
 obtain ⟨A,c,rfl⟩:=RE.form h
 obtain ⟨g,off,rfl⟩:=RE.addr h hp
 have hc:∀j,(hj:j < L.length)→w.cell? ⟨g,off+j,none⟩ = some (.int .u64 (L[j]:Nat)):=fun j hj=>by
  have:=RE.cell rq h hj (j:=0) (by omega) rfl
  rwa [Nat.mul_one,Nat.add_zero] at this
 exact ⟨g,off,c,rfl,World.block_lt_of_cell? _ _ (hc 0 hp),hc⟩
section
variable {ops:Array Oper} {rest:List Oper} {o:Oper} {a:Act} {w W W3 E W7:World} {Q:Exit→Act→World→Prop} {b b6 b7:Nat} {x y:Cl} {v u z:Value}
theorem lK (h0:KB w b x v) (hg:o.guard = none) (z:Operand) (ho:o.op = .load 47 z) (hx:a.eval z = .pointer (some ⟨b,0,none⟩)) (h:wpList Tryz.prog ops Q rest (a.put o.dst (.agg (clc x v))) w):wpList Tryz.prog ops Q (o :: rest) a w:=ck hg z ho hx h0 h
theorem sK (h0:KB w b x v) (h1:KB w b7 y u) (hg:o.guard = none) (z t:Operand) (ho:o.op = .store 47 z t) (hx:a.eval z = .pointer (some ⟨b,0,none⟩)) (hy:a.eval t = .agg (clc y u)) (hu:u.oneCell' = true)
  (h:∀w',KB w' b y u→Chg [b] w w'→wpList Tryz.prog ops Q rest (a.put o.dst undef) w'):wpList Tryz.prog ops Q (o :: rest) a w:=jz hg z t ho hx hy hu h0 h
def KC (W E:World) (b:Nat) (y:Cl) (u:Value):Prop:=KB E b y u∧Chg [b] W E
theorem KC.put (h:KC W E b x v) (i:Nat) (z:Value) (he:(clc x v).setIfInBounds i z = clc y u):KC W (E.setCell ⟨b,i,none⟩ z) b y u:=⟨KB.put h.1 i z he,h.2.setCell (.inl (by simp)) z⟩
theorem fi (h3:Chg [] w W3) (he:b6 = w.heap.size∧b7 = w.heap.size+1) (h:KC W3 E b7 y u) (k:Chg [b6] E W7):Chg [] w W7 :=
 (h3.trans h.2 (fun y hy=>.inr (by obtain rfl:=aa hy;omega))).trans k (fun y hy=>.inr (by obtain rfl:=aa hy;omega))
theorem b6F (h:KB W b6 zCl zV) (he:b6 = w.heap.size∧b7 = w.heap.size+1) (k:KC W E b7 y u):KB E b6 zCl zV:=Blk.chg h k.2 (by simp only [List.mem_singleton];omega)
theorem D1 {vL:Value} {L:List Nat} (hL:RW w vL L) (hn:L.length = 1) (hc:Chg [] w W3) (he:b6 = w.heap.size∧b7 = w.heap.size+1):∃z0 g off cL,L = [z0]∧vL = .slice (some ⟨g,off,none⟩) ([z0]:List Nat).length cL∧¬ g = b7∧¬ b7 = g∧W3.cell? ⟨g,off,none⟩ = some (.int .u64 (z0:Nat)):=by
 match L,hn with
 | [z0],_ =>
  obtain ⟨g,off,cL,rfl,rW,jA⟩:=pw hL (by simp)
  exact ⟨_,g,off,cL,rfl,rfl,by omega,by omega,hc.cell (jA 0 (by simp)) ab⟩
theorem D2 {vL:Value} {L:List Nat} (hL:RW w vL L) (hn:L.length = 2) (hc:Chg [] w W3) (he:b6 = w.heap.size∧b7 = w.heap.size+1):∃z0 z1 g off cL,L = [z0,z1]∧vL = .slice (some ⟨g,off,none⟩) ([z0,z1]:List Nat).length cL∧¬ g = b7∧¬ b7 = g∧W3.cell? ⟨g,off,none⟩ = some (.int .u64 (z0:Nat))∧W3.cell? ⟨g,off+1,none⟩ = some (.int .u64 (z1:Nat)):=by
 match L,hn with
 | [z0,z1],_ =>
  obtain ⟨g,off,cL,rfl,rW,jA⟩:=pw hL (by simp)
  exact ⟨_,_,g,off,cL,rfl,rfl,by omega,by omega,hc.cell (jA 0 (by simp)) ab,hc.cell (jA 1 (by simp)) ab⟩
theorem D3 {vL:Value} {L:List Nat} (hL:RW w vL L) (hn:L.length = 3) (hc:Chg [] w W3) (he:b6 = w.heap.size∧b7 = w.heap.size+1):∃z0 z1 z2 g off cL,L = [z0,z1,z2]∧vL = .slice (some ⟨g,off,none⟩) ([z0,z1,z2]:List Nat).length cL∧¬ g = b7∧¬ b7 = g∧W3.cell? ⟨g,off,none⟩ = some (.int .u64 (z0:Nat))∧W3.cell? ⟨g,off+1,none⟩ = some (.int .u64 (z1:Nat))∧W3.cell? ⟨g,off+2,none⟩ = some (.int .u64 (z2:Nat)):=by
 match L,hn with
 | [z0,z1,z2],_ =>
  obtain ⟨g,off,cL,rfl,rW,jA⟩:=pw hL (by simp)
  exact ⟨_,_,_,g,off,cL,rfl,rfl,by omega,by omega,hc.cell (jA 0 (by simp)) ab,hc.cell (jA 1 (by simp)) ab,hc.cell (jA 2 (by simp)) ab⟩
theorem D4 {vL:Value} {L:List Nat} (hL:RW w vL L) (hn:L.length = 4) (hc:Chg [] w W3) (he:b6 = w.heap.size∧b7 = w.heap.size+1):∃z0 z1 z2 z3 g off cL,L = [z0,z1,z2,z3]∧vL = .slice (some ⟨g,off,none⟩) ([z0,z1,z2,z3]:List Nat).length cL∧¬ g = b7∧¬ b7 = g∧W3.cell? ⟨g,off,none⟩ = some (.int .u64 (z0:Nat))∧W3.cell? ⟨g,off+1,none⟩ = some (.int .u64 (z1:Nat))∧W3.cell? ⟨g,off+2,none⟩ = some (.int .u64 (z2:Nat))∧W3.cell? ⟨g,off+3,none⟩ = some (.int .u64 (z3:Nat)):=by
 match L,hn with
 | [z0,z1,z2,z3],_ =>
  obtain ⟨g,off,cL,rfl,rW,jA⟩:=pw hL (by simp)
  exact ⟨_,_,_,_,g,off,cL,rfl,rfl,by omega,by omega,hc.cell (jA 0 (by simp)) ab,hc.cell (jA 1 (by simp)) ab,hc.cell (jA 2 (by simp)) ab,hc.cell (jA 3 (by simp)) ab⟩
theorem D5 {vL:Value} {L:List Nat} (hL:RW w vL L) (hn:L.length = 5) (hc:Chg [] w W3) (he:b6 = w.heap.size∧b7 = w.heap.size+1):∃z0 z1 z2 z3 z4 g off cL,L = [z0,z1,z2,z3,z4]∧vL = .slice (some ⟨g,off,none⟩) ([z0,z1,z2,z3,z4]:List Nat).length cL∧¬ g = b7∧¬ b7 = g∧W3.cell? ⟨g,off,none⟩ = some (.int .u64 (z0:Nat))∧W3.cell? ⟨g,off+1,none⟩ = some (.int .u64 (z1:Nat))∧W3.cell? ⟨g,off+2,none⟩ = some (.int .u64 (z2:Nat))∧W3.cell? ⟨g,off+3,none⟩ = some (.int .u64 (z3:Nat))∧W3.cell? ⟨g,off+4,none⟩ = some (.int .u64 (z4:Nat)):=by
 match L,hn with
 | [z0,z1,z2,z3,z4],_ =>
  obtain ⟨g,off,cL,rfl,rW,jA⟩:=pw hL (by simp)
  exact ⟨_,_,_,_,_,g,off,cL,rfl,rfl,by omega,by omega,hc.cell (jA 0 (by simp)) ab,hc.cell (jA 1 (by simp)) ab,hc.cell (jA 2 (by simp)) ab,hc.cell (jA 3 (by simp)) ab,hc.cell (jA 4 (by simp)) ab⟩
end
theorem rp (n:Nat):IntKind.u8.wrap (n:Int) = ((n % 256:Nat):Int):=by rw [IntKind.wrap_u8];omega
theorem Of_any {w:World} {k:Nat} {L:List Nat} {vL:Value} (hL:RW w vL L) (hn:L.length = cntK k) (kN:∀n∈L,n < 18446744073709551616) (hk8:k < 256) (l:List Nat) (A0:Option Addr) (n0 c0:Nat) :
  Calls Tryz.prog 104 #[.int .u8 k,vL,.slice A0 n0 c0] w fun e w'=>e = .returned (.agg (clc (ofK k L l) (.slice A0 n0 c0)))∧Chg [] w w':=by
 have hwk:IntKind.u8.wrap (k:Int) = (k:Int):=by rw [IntKind.wrap_u8];omega
 go_enter Tryz.func104,Tryz.ntmps104
 go_upto_region 2 with (first|refine qw rfl rfl ?_;try simp only [af];try go_simp|refine jz (b:=w.heap.size+1) (y:={ zCl with k:=k }) (u:=zV) rfl _ _ rfl rfl rfl rfl (by have:=Blk.new (w.alloc (.cells (clc zCl zV) 47)) 47 (clc zCl zV);rwa [af] at this) ?_;intro W3 h3 jD)
 have jE:=ah (show Chg [] w W3 from (((Chg.refl [] w).alloc _).alloc _).trans jD (fun y hy=>.inr (by obtain rfl:=aa hy;omega)))
 have kH:=ah (show KB W3 w.heap.size zCl zV from Blk.chg ((Blk.new w 47 _).alloc _) jD (by simp only [List.mem_singleton];omega))
 obtain ⟨b6,e6⟩:∃b,b = w.heap.size:=⟨_,rfl⟩
 obtain ⟨b7,e7⟩:∃b,b = w.heap.size+1:=⟨_,rfl⟩
 rw [← e7,← e6]
 rw [← e7] at h3
 rw [← e6] at kH
 have HE:=ah (And.intro e6 e7)
 have HK:=ah (show KC W3 W3 b7 _ _ from ⟨h3,Chg.refl _ _⟩)
 obtain ⟨f0,f1,f2,f3,f4,f5,f6,f7,f8,f9,f10,f11,fl,ff⟩:=KB.cells h3
 clear h3 jD e6 e7
 rcases (by omega:k = 0∨k = 1∨k = 2∨k = 3∨k = 4∨k = 5∨k = 6∨k = 7∨k = 8∨k = 9∨k = 10∨k = 11∨k = 12∨k = 13∨k = 14∨k = 15∨k = 16∨k = 17∨k = 18∨k = 19∨k = 20∨k = 21∨22≤k) with rfl | rfl | rfl | rfl | rfl | rfl | rfl | rfl | rfl | rfl | rfl | rfl | rfl | rfl | rfl | rfl | rfl | rfl | rfl | rfl | rfl | rfl | hk
 ·obtain rfl:L = []:=List.eq_nil_of_length_eq_zero hn
  obtain ⟨AL,cL,rfl⟩:=RE.form hL
  clear hL kN hn
  have HF:=ah (KC.put (y:=ofK 0 [] l) (u:=.slice A0 n0 c0) HK.out 11 (.slice A0 n0 c0) rfl)
  have HB:=ah (b6F kH.out HE.out HF.out)
  go_upto_region 60 with (fail)
  go_wp2_with (first|refine lK HF.out.1 rfl _ rfl rfl ?_|refine sK HB.out HF.out.1 rfl _ _ rfl rfl rfl rfl ?_;intro W7 h7 jI)
  refine bodyPost_ret (v:=.agg (clc (ofK 0 [] l) (.slice A0 n0 c0))) (results_cell_row (p:=6) (ty:=47) rfl _ _ b6 47 _ (0,0) _ rfl h7 Tryz.underlying47 rfl dx) rfl ⟨rfl,?_⟩
  exact fi jE.out HE.out HF.out jI
 ·obtain rfl:L = []:=List.eq_nil_of_length_eq_zero hn
  obtain ⟨AL,cL,rfl⟩:=RE.form hL
  clear hL kN hn
  have HF:=ah (KC.put (y:=ofK 1 [] l) (u:=.slice A0 n0 c0) HK.out 11 (.slice A0 n0 c0) rfl)
  have HB:=ah (b6F kH.out HE.out HF.out)
  go_upto_region 60 with (fail)
  go_wp2_with (first|refine lK HF.out.1 rfl _ rfl rfl ?_|refine sK HB.out HF.out.1 rfl _ _ rfl rfl rfl rfl ?_;intro W7 h7 jI)
  refine bodyPost_ret (v:=.agg (clc (ofK 1 [] l) (.slice A0 n0 c0))) (results_cell_row (p:=6) (ty:=47) rfl _ _ b6 47 _ (0,0) _ rfl h7 Tryz.underlying47 rfl dx) rfl ⟨rfl,?_⟩
  exact fi jE.out HE.out HF.out jI
 ·obtain ⟨z0,g,off,cL,rfl,rfl,jO,mY,r0⟩:=D1 hL (hn.trans (by decide)) jE.out HE.out
  have x0:=cq (kN z0 (by simp))
  clear hL kN hn
  have HF:=ah (KC.put (y:=ofK 2 [z0] l) (u:=.slice A0 n0 c0) (KC.put (y:={ zCl with k:=2,p:=bu z0 }) (u:=zV) HK.out 1 (.int .i64 (bu z0)) rfl) 11 (.slice A0 n0 c0) rfl)
  have HB:=ah (b6F kH.out HE.out HF.out)
  go_upto_region 60 with (fail)
  go_wp2_with (first|refine lK HF.out.1 rfl _ rfl rfl ?_|refine sK HB.out HF.out.1 rfl _ _ rfl rfl rfl rfl ?_;intro W7 h7 jI)
  refine bodyPost_ret (v:=.agg (clc (ofK 2 [z0] l) (.slice A0 n0 c0))) (results_cell_row (p:=6) (ty:=47) rfl _ _ b6 47 _ (0,0) _ rfl h7 Tryz.underlying47 rfl dx) rfl ⟨rfl,?_⟩
  exact fi jE.out HE.out HF.out jI
 ·obtain ⟨z0,z1,z2,z3,g,off,cL,rfl,rfl,jO,mY,r0,r1,r2,r3⟩:=D4 hL (hn.trans (by decide)) jE.out HE.out
  have x0:=cq (kN z0 (by simp))
  have x1:=cq (kN z1 (by simp))
  have x2:=cq (kN z2 (by simp))
  have x3:=rp z3
  clear hL kN hn
  have HF:=ah (KC.put (y:=ofK 3 [z0,z1,z2,z3] l) (u:=.slice A0 n0 c0) (KC.put (y:={ zCl with k:=3,p:=bu z0,g:=bu z1,c:=bu z2,r:=z3 % 256 }) (u:=zV) (KC.put (y:={ zCl with k:=3,p:=bu z0,g:=bu z1,c:=bu z2 }) (u:=zV) (KC.put (y:={ zCl with k:=3,p:=bu z0,g:=bu z1 }) (u:=zV) (KC.put (y:={ zCl with k:=3,p:=bu z0 }) (u:=zV) HK.out 1 (.int .i64 (bu z0)) rfl) 3 (.int .i64 (bu z1)) rfl) 4 (.int .i64 (bu z2)) rfl) 7 (.int .u8 (z3 % 256:Nat)) rfl) 11 (.slice A0 n0 c0) rfl)
  have HB:=ah (b6F kH.out HE.out HF.out)
  go_upto_region 60 with (fail)
  go_wp2_with (first|refine lK HF.out.1 rfl _ rfl rfl ?_|refine sK HB.out HF.out.1 rfl _ _ rfl rfl rfl rfl ?_;intro W7 h7 jI)
  refine bodyPost_ret (v:=.agg (clc (ofK 3 [z0,z1,z2,z3] l) (.slice A0 n0 c0))) (results_cell_row (p:=6) (ty:=47) rfl _ _ b6 47 _ (0,0) _ rfl h7 Tryz.underlying47 rfl dx) rfl ⟨rfl,?_⟩
  exact fi jE.out HE.out HF.out jI
 ·obtain ⟨z0,z1,z2,g,off,cL,rfl,rfl,jO,mY,r0,r1,r2⟩:=D3 hL (hn.trans (by decide)) jE.out HE.out
  have x0:=cq (kN z0 (by simp))
  have x1:=cq (kN z1 (by simp))
  have x2:=cq (kN z2 (by simp))
  clear hL kN hn
  have HF:=ah (KC.put (y:=ofK 4 [z0,z1,z2] l) (u:=.slice A0 n0 c0) (KC.put (y:={ zCl with k:=4,p:=bu z0,g:=bu z1,c:=bu z2 }) (u:=zV) (KC.put (y:={ zCl with k:=4,p:=bu z0,g:=bu z1 }) (u:=zV) (KC.put (y:={ zCl with k:=4,p:=bu z0 }) (u:=zV) HK.out 1 (.int .i64 (bu z0)) rfl) 3 (.int .i64 (bu z1)) rfl) 4 (.int .i64 (bu z2)) rfl) 11 (.slice A0 n0 c0) rfl)
  have HB:=ah (b6F kH.out HE.out HF.out)
  go_upto_region 60 with (fail)
  go_wp2_with (first|refine lK HF.out.1 rfl _ rfl rfl ?_|refine sK HB.out HF.out.1 rfl _ _ rfl rfl rfl rfl ?_;intro W7 h7 jI)
  refine bodyPost_ret (v:=.agg (clc (ofK 4 [z0,z1,z2] l) (.slice A0 n0 c0))) (results_cell_row (p:=6) (ty:=47) rfl _ _ b6 47 _ (0,0) _ rfl h7 Tryz.underlying47 rfl dx) rfl ⟨rfl,?_⟩
  exact fi jE.out HE.out HF.out jI
 ·obtain ⟨z0,z1,z2,z3,g,off,cL,rfl,rfl,jO,mY,r0,r1,r2,r3⟩:=D4 hL (hn.trans (by decide)) jE.out HE.out
  have x0:=cq (kN z0 (by simp))
  have x1:=cq (kN z1 (by simp))
  have x2:=cq (kN z2 (by simp))
  have x3:=rp z3
  clear hL kN hn
  have HF:=ah (KC.put (y:=ofK 5 [z0,z1,z2,z3] l) (u:=.slice A0 n0 c0) (KC.put (y:={ zCl with k:=5,p:=bu z0,g:=bu z1,c:=bu z2,r:=z3 % 256 }) (u:=zV) (KC.put (y:={ zCl with k:=5,p:=bu z0,g:=bu z1,c:=bu z2 }) (u:=zV) (KC.put (y:={ zCl with k:=5,p:=bu z0,g:=bu z1 }) (u:=zV) (KC.put (y:={ zCl with k:=5,p:=bu z0 }) (u:=zV) HK.out 1 (.int .i64 (bu z0)) rfl) 3 (.int .i64 (bu z1)) rfl) 4 (.int .i64 (bu z2)) rfl) 7 (.int .u8 (z3 % 256:Nat)) rfl) 11 (.slice A0 n0 c0) rfl)
  have HB:=ah (b6F kH.out HE.out HF.out)
  go_upto_region 60 with (fail)
  go_wp2_with (first|refine lK HF.out.1 rfl _ rfl rfl ?_|refine sK HB.out HF.out.1 rfl _ _ rfl rfl rfl rfl ?_;intro W7 h7 jI)
  refine bodyPost_ret (v:=.agg (clc (ofK 5 [z0,z1,z2,z3] l) (.slice A0 n0 c0))) (results_cell_row (p:=6) (ty:=47) rfl _ _ b6 47 _ (0,0) _ rfl h7 Tryz.underlying47 rfl dx) rfl ⟨rfl,?_⟩
  exact fi jE.out HE.out HF.out jI
 ·obtain ⟨z0,z1,z2,g,off,cL,rfl,rfl,jO,mY,r0,r1,r2⟩:=D3 hL (hn.trans (by decide)) jE.out HE.out
  have x0:=cq (kN z0 (by simp))
  have x1:=cq (kN z1 (by simp))
  have x2:=cq (kN z2 (by simp))
  clear hL kN hn
  have HF:=ah (KC.put (y:=ofK 6 [z0,z1,z2] l) (u:=.slice A0 n0 c0) (KC.put (y:={ zCl with k:=6,p:=bu z0,g:=bu z1,c:=bu z2 }) (u:=zV) (KC.put (y:={ zCl with k:=6,p:=bu z0,g:=bu z1 }) (u:=zV) (KC.put (y:={ zCl with k:=6,p:=bu z0 }) (u:=zV) HK.out 1 (.int .i64 (bu z0)) rfl) 3 (.int .i64 (bu z1)) rfl) 4 (.int .i64 (bu z2)) rfl) 11 (.slice A0 n0 c0) rfl)
  have HB:=ah (b6F kH.out HE.out HF.out)
  go_upto_region 60 with (fail)
  go_wp2_with (first|refine lK HF.out.1 rfl _ rfl rfl ?_|refine sK HB.out HF.out.1 rfl _ _ rfl rfl rfl rfl ?_;intro W7 h7 jI)
  refine bodyPost_ret (v:=.agg (clc (ofK 6 [z0,z1,z2] l) (.slice A0 n0 c0))) (results_cell_row (p:=6) (ty:=47) rfl _ _ b6 47 _ (0,0) _ rfl h7 Tryz.underlying47 rfl dx) rfl ⟨rfl,?_⟩
  exact fi jE.out HE.out HF.out jI
 ·obtain ⟨z0,z1,z2,g,off,cL,rfl,rfl,jO,mY,r0,r1,r2⟩:=D3 hL (hn.trans (by decide)) jE.out HE.out
  have x0:=cq (kN z0 (by simp))
  have x1:=cq (kN z1 (by simp))
  have x2:=cq (kN z2 (by simp))
  clear hL kN hn
  have HF:=ah (KC.put (y:=ofK 7 [z0,z1,z2] l) (u:=.slice A0 n0 c0) (KC.put (y:={ zCl with k:=7,p:=bu z0,g:=bu z1,c:=bu z2 }) (u:=zV) (KC.put (y:={ zCl with k:=7,p:=bu z0,g:=bu z1 }) (u:=zV) (KC.put (y:={ zCl with k:=7,p:=bu z0 }) (u:=zV) HK.out 1 (.int .i64 (bu z0)) rfl) 3 (.int .i64 (bu z1)) rfl) 4 (.int .i64 (bu z2)) rfl) 11 (.slice A0 n0 c0) rfl)
  have HB:=ah (b6F kH.out HE.out HF.out)
  go_upto_region 60 with (fail)
  go_wp2_with (first|refine lK HF.out.1 rfl _ rfl rfl ?_|refine sK HB.out HF.out.1 rfl _ _ rfl rfl rfl rfl ?_;intro W7 h7 jI)
  refine bodyPost_ret (v:=.agg (clc (ofK 7 [z0,z1,z2] l) (.slice A0 n0 c0))) (results_cell_row (p:=6) (ty:=47) rfl _ _ b6 47 _ (0,0) _ rfl h7 Tryz.underlying47 rfl dx) rfl ⟨rfl,?_⟩
  exact fi jE.out HE.out HF.out jI
 ·obtain ⟨z0,z1,z2,g,off,cL,rfl,rfl,jO,mY,r0,r1,r2⟩:=D3 hL (hn.trans (by decide)) jE.out HE.out
  have x0:=cq (kN z0 (by simp))
  have x1:=cq (kN z1 (by simp))
  have x2:=cq (kN z2 (by simp))
  clear hL kN hn
  have HF:=ah (KC.put (y:=ofK 8 [z0,z1,z2] l) (u:=.slice A0 n0 c0) (KC.put (y:={ zCl with k:=8,p:=bu z0,a:=bu z1,s:=bu z2 }) (u:=zV) (KC.put (y:={ zCl with k:=8,p:=bu z0,a:=bu z1 }) (u:=zV) (KC.put (y:={ zCl with k:=8,p:=bu z0 }) (u:=zV) HK.out 1 (.int .i64 (bu z0)) rfl) 5 (.int .i64 (bu z1)) rfl) 6 (.int .i64 (bu z2)) rfl) 11 (.slice A0 n0 c0) rfl)
  have HB:=ah (b6F kH.out HE.out HF.out)
  go_upto_region 60 with (fail)
  go_wp2_with (first|refine lK HF.out.1 rfl _ rfl rfl ?_|refine sK HB.out HF.out.1 rfl _ _ rfl rfl rfl rfl ?_;intro W7 h7 jI)
  refine bodyPost_ret (v:=.agg (clc (ofK 8 [z0,z1,z2] l) (.slice A0 n0 c0))) (results_cell_row (p:=6) (ty:=47) rfl _ _ b6 47 _ (0,0) _ rfl h7 Tryz.underlying47 rfl dx) rfl ⟨rfl,?_⟩
  exact fi jE.out HE.out HF.out jI
 ·obtain ⟨z0,z1,g,off,cL,rfl,rfl,jO,mY,r0,r1⟩:=D2 hL (hn.trans (by decide)) jE.out HE.out
  have x0:=cq (kN z0 (by simp))
  have x1:=cq (kN z1 (by simp))
  clear hL kN hn
  have HF:=ah (KC.put (y:=ofK 9 [z0,z1] l) (u:=.slice A0 n0 c0) (KC.put (y:={ zCl with k:=9,p:=bu z0,a:=bu z1 }) (u:=zV) (KC.put (y:={ zCl with k:=9,p:=bu z0 }) (u:=zV) HK.out 1 (.int .i64 (bu z0)) rfl) 5 (.int .i64 (bu z1)) rfl) 11 (.slice A0 n0 c0) rfl)
  have HB:=ah (b6F kH.out HE.out HF.out)
  go_upto_region 60 with (fail)
  go_wp2_with (first|refine lK HF.out.1 rfl _ rfl rfl ?_|refine sK HB.out HF.out.1 rfl _ _ rfl rfl rfl rfl ?_;intro W7 h7 jI)
  refine bodyPost_ret (v:=.agg (clc (ofK 9 [z0,z1] l) (.slice A0 n0 c0))) (results_cell_row (p:=6) (ty:=47) rfl _ _ b6 47 _ (0,0) _ rfl h7 Tryz.underlying47 rfl dx) rfl ⟨rfl,?_⟩
  exact fi jE.out HE.out HF.out jI
 ·obtain ⟨z0,g,off,cL,rfl,rfl,jO,mY,r0⟩:=D1 hL (hn.trans (by decide)) jE.out HE.out
  have x0:=cq (kN z0 (by simp))
  clear hL kN hn
  have HF:=ah (KC.put (y:=ofK 10 [z0] l) (u:=.slice A0 n0 c0) (KC.put (y:={ zCl with k:=10,s:=bu z0 }) (u:=zV) HK.out 6 (.int .i64 (bu z0)) rfl) 11 (.slice A0 n0 c0) rfl)
  have HB:=ah (b6F kH.out HE.out HF.out)
  go_upto_region 60 with (fail)
  go_wp2_with (first|refine lK HF.out.1 rfl _ rfl rfl ?_|refine sK HB.out HF.out.1 rfl _ _ rfl rfl rfl rfl ?_;intro W7 h7 jI)
  refine bodyPost_ret (v:=.agg (clc (ofK 10 [z0] l) (.slice A0 n0 c0))) (results_cell_row (p:=6) (ty:=47) rfl _ _ b6 47 _ (0,0) _ rfl h7 Tryz.underlying47 rfl dx) rfl ⟨rfl,?_⟩
  exact fi jE.out HE.out HF.out jI
 ·obtain ⟨z0,g,off,cL,rfl,rfl,jO,mY,r0⟩:=D1 hL (hn.trans (by decide)) jE.out HE.out
  clear hL kN hn
  have HF:=ah (KC.put (y:=ofK 11 [z0] l) (u:=.slice A0 n0 c0) (KC.put (y:={ zCl with k:=11,h:=z0 }) (u:=zV) HK.out 10 (.int .u64 (z0:Nat)) rfl) 11 (.slice A0 n0 c0) rfl)
  have HB:=ah (b6F kH.out HE.out HF.out)
  go_upto_region 60 with (fail)
  go_wp2_with (first|refine lK HF.out.1 rfl _ rfl rfl ?_|refine sK HB.out HF.out.1 rfl _ _ rfl rfl rfl rfl ?_;intro W7 h7 jI)
  refine bodyPost_ret (v:=.agg (clc (ofK 11 [z0] l) (.slice A0 n0 c0))) (results_cell_row (p:=6) (ty:=47) rfl _ _ b6 47 _ (0,0) _ rfl h7 Tryz.underlying47 rfl dx) rfl ⟨rfl,?_⟩
  exact fi jE.out HE.out HF.out jI
 ·obtain ⟨z0,z1,z2,g,off,cL,rfl,rfl,jO,mY,r0,r1,r2⟩:=D3 hL (hn.trans (by decide)) jE.out HE.out
  have x1:=cq (kN z1 (by simp))
  have x2:=cq (kN z2 (by simp))
  clear hL kN hn
  have HF:=ah (KC.put (y:=ofK 12 [z0,z1,z2] l) (u:=.slice A0 n0 c0) (KC.put (y:={ zCl with k:=12,h:=z0,a:=bu z1,s:=bu z2 }) (u:=zV) (KC.put (y:={ zCl with k:=12,h:=z0,a:=bu z1 }) (u:=zV) (KC.put (y:={ zCl with k:=12,h:=z0 }) (u:=zV) HK.out 10 (.int .u64 (z0:Nat)) rfl) 5 (.int .i64 (bu z1)) rfl) 6 (.int .i64 (bu z2)) rfl) 11 (.slice A0 n0 c0) rfl)
  have HB:=ah (b6F kH.out HE.out HF.out)
  go_upto_region 60 with (fail)
  go_wp2_with (first|refine lK HF.out.1 rfl _ rfl rfl ?_|refine sK HB.out HF.out.1 rfl _ _ rfl rfl rfl rfl ?_;intro W7 h7 jI)
  refine bodyPost_ret (v:=.agg (clc (ofK 12 [z0,z1,z2] l) (.slice A0 n0 c0))) (results_cell_row (p:=6) (ty:=47) rfl _ _ b6 47 _ (0,0) _ rfl h7 Tryz.underlying47 rfl dx) rfl ⟨rfl,?_⟩
  exact fi jE.out HE.out HF.out jI
 ·obtain ⟨z0,z1,g,off,cL,rfl,rfl,jO,mY,r0,r1⟩:=D2 hL (hn.trans (by decide)) jE.out HE.out
  have x1:=cq (kN z1 (by simp))
  clear hL kN hn
  have HF:=ah (KC.put (y:=ofK 13 [z0,z1] l) (u:=.slice A0 n0 c0) (KC.put (y:={ zCl with k:=13,h:=z0,a:=bu z1 }) (u:=zV) (KC.put (y:={ zCl with k:=13,h:=z0 }) (u:=zV) HK.out 10 (.int .u64 (z0:Nat)) rfl) 5 (.int .i64 (bu z1)) rfl) 11 (.slice A0 n0 c0) rfl)
  have HB:=ah (b6F kH.out HE.out HF.out)
  go_upto_region 60 with (fail)
  go_wp2_with (first|refine lK HF.out.1 rfl _ rfl rfl ?_|refine sK HB.out HF.out.1 rfl _ _ rfl rfl rfl rfl ?_;intro W7 h7 jI)
  refine bodyPost_ret (v:=.agg (clc (ofK 13 [z0,z1] l) (.slice A0 n0 c0))) (results_cell_row (p:=6) (ty:=47) rfl _ _ b6 47 _ (0,0) _ rfl h7 Tryz.underlying47 rfl dx) rfl ⟨rfl,?_⟩
  exact fi jE.out HE.out HF.out jI
 ·obtain ⟨z0,z1,z2,g,off,cL,rfl,rfl,jO,mY,r0,r1,r2⟩:=D3 hL (hn.trans (by decide)) jE.out HE.out
  have x0:=cq (kN z0 (by simp))
  have x1:=rp z1
  have x2:=rp z2
  clear hL kN hn
  go_upto_region 54 with (fail)
  have HC:=(KC.put (y:={ zCl with k:=14,p:=bu z0 }) (u:=zV) HK.out 1 (.int .i64 (bu z0)) rfl)
  have wV:=ah HC.1
  have U:=HC.2
  clear HC
  have GB:=Chg.size U
  have p0:=Chg.cell U r0 (by simp only [List.mem_singleton];omega)
  have p1:=Chg.cell U r1 (by simp only [List.mem_singleton];omega)
  have p2:=Chg.cell U r2 (by simp only [List.mem_singleton];omega)
  have jM:=ah U
  clear r0 r1 r2 f0 f1 f2 f3 f4 f5 f6 f7 f8 f9 f10 f11 ff U
  have hl5:b7 < (W3.setCell ⟨b7,1,none⟩ (.int .i64 (bu z0))).heap.size:=by omega
  clear fl GB
  generalize (W3.setCell ⟨b7,1,none⟩ (.int .i64 (bu z0))) = W5 at *
  obtain ⟨f0,f1,f2,f3,f4,f5,f6,f7,f8,f9,f10,f11,-,ff⟩:=KB.cells wV.out
  have HC:=(KC.put (y:={ zCl with k:=14,p:=bu z0,ok:=z1 % 256,om:=z2 % 256 }) (u:=zV) (KC.put (y:={ zCl with k:=14,p:=bu z0,ok:=z1 % 256 }) (u:=zV) (show KC W5 W5.drew b7 _ _ from ⟨Blk.drew wV.out,(Chg.refl [b7] W5).drew⟩) 8 (.int .u8 (z1 % 256:Nat)) rfl) 9 (.int .u8 (z2 % 256:Nat)) rfl)
  have Cy:=ah HC.1
  have oK:=ah HC.2
  clear HC
  refine ke [0,0,1,0,0,0,1,0,0,0,6] ?_
  go_wp2_with (first|refine av fun K I=>?_|refine ai fun K I=>?_;go_simp;refine I _ _ ?_;clear I K|refine ao fun K I=>?_;go_simp|refine aj ?_)
  (refine aw trivial fun K I=>?_)
  refine xu (b:=b7) (x:={ zCl with k:=14,p:=bu z0 }) (v:=zV) (p:=((z1 % 256:Nat):Int)) (m:=((z2 % 256:Nat):Int)) _ _ rfl rfl rfl (Blk.drew wV.out) ?_
  refine I _ _ trivial ?_
  clear I K
  clear p0 p1 p2 f0 f1 f2 f3 f4 f5 f6 f7 f8 f9 f10 f11 ff hl5
  have Cn:=ah (show Chg [b7] W3 ((W5.drew.setCell ⟨b7,8,none⟩ (.int .u8 (z1 % 256:Nat))).setCell ⟨b7,9,none⟩ (.int .u8 (z2 % 256:Nat))) from jM.out.and_ oK.out)
  clear oK jM wV
  generalize ((W5.drew.setCell ⟨b7,8,none⟩ (.int .u8 (z1 % 256:Nat))).setCell ⟨b7,9,none⟩ (.int .u8 (z2 % 256:Nat))) = W6 at *
  clear W5
  obtain ⟨f0,f1,f2,f3,f4,f5,f6,f7,f8,f9,f10,f11,hl6,ff⟩:=KB.cells Cy.out
  have HF:=ah (KC.put (y:=ofK 14 [z0,z1,z2] l) (u:=.slice A0 n0 c0) (show KC W3 W6 b7 _ _ from ⟨Cy.out,Cn.out⟩) 11 (.slice A0 n0 c0) rfl)
  have HB:=ah (b6F kH.out HE.out HF.out)
  go_wp2_with (first|refine lK HF.out.1 rfl _ rfl rfl ?_|refine sK HB.out HF.out.1 rfl _ _ rfl rfl rfl rfl ?_;intro W7 h7 jI|refine av fun K I=>?_|refine ai fun K I=>?_;go_simp;refine I _ _ ?_;clear I K|refine ao fun K I=>?_;go_simp|refine aj ?_)
  refine bodyPost_ret (v:=.agg (clc (ofK 14 [z0,z1,z2] l) (.slice A0 n0 c0))) (results_cell_row (p:=6) (ty:=47) rfl _ _ b6 47 _ (0,0) _ rfl h7 Tryz.underlying47 rfl dx) rfl ⟨rfl,?_⟩
  exact fi jE.out HE.out HF.out jI
 ·obtain ⟨z0,z1,z2,z3,z4,g,off,cL,rfl,rfl,jO,mY,r0,r1,r2,r3,r4⟩:=D5 hL (hn.trans (by decide)) jE.out HE.out
  have x0:=cq (kN z0 (by simp))
  have x1:=cq (kN z1 (by simp))
  have x2:=cq (kN z2 (by simp))
  have x3:=rp z3
  have x4:=rp z4
  clear hL kN hn
  go_upto_region 56 with (fail)
  have HC:=(KC.put (y:={ zCl with k:=15,p:=bu z0,g:=bu z1,c:=bu z2 }) (u:=zV) (KC.put (y:={ zCl with k:=15,p:=bu z0,g:=bu z1 }) (u:=zV) (KC.put (y:={ zCl with k:=15,p:=bu z0 }) (u:=zV) HK.out 1 (.int .i64 (bu z0)) rfl) 3 (.int .i64 (bu z1)) rfl) 4 (.int .i64 (bu z2)) rfl)
  have wV:=ah HC.1
  have U:=HC.2
  clear HC
  have GB:=Chg.size U
  have p0:=Chg.cell U r0 (by simp only [List.mem_singleton];omega)
  have p1:=Chg.cell U r1 (by simp only [List.mem_singleton];omega)
  have p2:=Chg.cell U r2 (by simp only [List.mem_singleton];omega)
  have p3:=Chg.cell U r3 (by simp only [List.mem_singleton];omega)
  have p4:=Chg.cell U r4 (by simp only [List.mem_singleton];omega)
  have jM:=ah U
  clear r0 r1 r2 r3 r4 f0 f1 f2 f3 f4 f5 f6 f7 f8 f9 f10 f11 ff U
  have hl5:b7 < (((W3.setCell ⟨b7,1,none⟩ (.int .i64 (bu z0))).setCell ⟨b7,3,none⟩ (.int .i64 (bu z1))).setCell ⟨b7,4,none⟩ (.int .i64 (bu z2))).heap.size:=by omega
  clear fl GB
  generalize (((W3.setCell ⟨b7,1,none⟩ (.int .i64 (bu z0))).setCell ⟨b7,3,none⟩ (.int .i64 (bu z1))).setCell ⟨b7,4,none⟩ (.int .i64 (bu z2))) = W5 at *
  obtain ⟨f0,f1,f2,f3,f4,f5,f6,f7,f8,f9,f10,f11,-,ff⟩:=KB.cells wV.out
  have HC:=(KC.put (y:={ zCl with k:=15,p:=bu z0,g:=bu z1,c:=bu z2,ok:=z3 % 256,om:=z4 % 256 }) (u:=zV) (KC.put (y:={ zCl with k:=15,p:=bu z0,g:=bu z1,c:=bu z2,ok:=z3 % 256 }) (u:=zV) (show KC W5 W5.drew b7 _ _ from ⟨Blk.drew wV.out,(Chg.refl [b7] W5).drew⟩) 8 (.int .u8 (z3 % 256:Nat)) rfl) 9 (.int .u8 (z4 % 256:Nat)) rfl)
  have Cy:=ah HC.1
  have oK:=ah HC.2
  clear HC
  refine ke [0,0,1,0,0,0,1,0,0,0,6] ?_
  as_aux_lemma =>
   go_wp2_with (first|refine av fun K I=>?_|refine ai fun K I=>?_;go_simp;refine I _ _ ?_;clear I K|refine ao fun K I=>?_;go_simp|refine aj ?_)
   (refine aw trivial fun K I=>?_)
   refine xu (b:=b7) (x:={ zCl with k:=15,p:=bu z0,g:=bu z1,c:=bu z2 }) (v:=zV) (p:=((z3 % 256:Nat):Int)) (m:=((z4 % 256:Nat):Int)) _ _ rfl rfl rfl (Blk.drew wV.out) ?_
   refine I _ _ trivial ?_
   clear I K
   clear p0 p1 p2 p3 p4 f0 f1 f2 f3 f4 f5 f6 f7 f8 f9 f10 f11 ff hl5
   have Cn:=ah (show Chg [b7] W3 ((W5.drew.setCell ⟨b7,8,none⟩ (.int .u8 (z3 % 256:Nat))).setCell ⟨b7,9,none⟩ (.int .u8 (z4 % 256:Nat))) from jM.out.and_ oK.out)
   clear oK jM wV
   generalize ((W5.drew.setCell ⟨b7,8,none⟩ (.int .u8 (z3 % 256:Nat))).setCell ⟨b7,9,none⟩ (.int .u8 (z4 % 256:Nat))) = W6 at *
   clear W5
   obtain ⟨f0,f1,f2,f3,f4,f5,f6,f7,f8,f9,f10,f11,hl6,ff⟩:=KB.cells Cy.out
   have HF:=ah (KC.put (y:=ofK 15 [z0,z1,z2,z3,z4] l) (u:=.slice A0 n0 c0) (show KC W3 W6 b7 _ _ from ⟨Cy.out,Cn.out⟩) 11 (.slice A0 n0 c0) rfl)
   have HB:=ah (b6F kH.out HE.out HF.out)
   go_wp2_with (first|refine lK HF.out.1 rfl _ rfl rfl ?_|refine sK HB.out HF.out.1 rfl _ _ rfl rfl rfl rfl ?_;intro W7 h7 jI|refine av fun K I=>?_|refine ai fun K I=>?_;go_simp;refine I _ _ ?_;clear I K|refine ao fun K I=>?_;go_simp|refine aj ?_)
   refine bodyPost_ret (v:=.agg (clc (ofK 15 [z0,z1,z2,z3,z4] l) (.slice A0 n0 c0))) (results_cell_row (p:=6) (ty:=47) rfl _ _ b6 47 _ (0,0) _ rfl h7 Tryz.underlying47 rfl dx) rfl ⟨rfl,?_⟩
   exact fi jE.out HE.out HF.out jI
 ·obtain ⟨z0,z1,g,off,cL,rfl,rfl,jO,mY,r0,r1⟩:=D2 hL (hn.trans (by decide)) jE.out HE.out
  have x0:=cq (kN z0 (by simp))
  have x1:=cq (kN z1 (by simp))
  clear hL kN hn
  have HF:=ah (KC.put (y:=ofK 16 [z0,z1] l) (u:=.slice A0 n0 c0) (KC.put (y:={ zCl with k:=16,p:=bu z0,g:=bu z1 }) (u:=zV) (KC.put (y:={ zCl with k:=16,p:=bu z0 }) (u:=zV) HK.out 1 (.int .i64 (bu z0)) rfl) 3 (.int .i64 (bu z1)) rfl) 11 (.slice A0 n0 c0) rfl)
  have HB:=ah (b6F kH.out HE.out HF.out)
  go_upto_region 60 with (fail)
  go_wp2_with (first|refine lK HF.out.1 rfl _ rfl rfl ?_|refine sK HB.out HF.out.1 rfl _ _ rfl rfl rfl rfl ?_;intro W7 h7 jI)
  refine bodyPost_ret (v:=.agg (clc (ofK 16 [z0,z1] l) (.slice A0 n0 c0))) (results_cell_row (p:=6) (ty:=47) rfl _ _ b6 47 _ (0,0) _ rfl h7 Tryz.underlying47 rfl dx) rfl ⟨rfl,?_⟩
  exact fi jE.out HE.out HF.out jI
 ·obtain ⟨z0,z1,g,off,cL,rfl,rfl,jO,mY,r0,r1⟩:=D2 hL (hn.trans (by decide)) jE.out HE.out
  have x0:=cq (kN z0 (by simp))
  have x1:=cq (kN z1 (by simp))
  clear hL kN hn
  have HF:=ah (KC.put (y:=ofK 17 [z0,z1] l) (u:=.slice A0 n0 c0) (KC.put (y:={ zCl with k:=17,p:=bu z0,g:=bu z1 }) (u:=zV) (KC.put (y:={ zCl with k:=17,p:=bu z0 }) (u:=zV) HK.out 1 (.int .i64 (bu z0)) rfl) 3 (.int .i64 (bu z1)) rfl) 11 (.slice A0 n0 c0) rfl)
  have HB:=ah (b6F kH.out HE.out HF.out)
  go_upto_region 60 with (fail)
  go_wp2_with (first|refine lK HF.out.1 rfl _ rfl rfl ?_|refine sK HB.out HF.out.1 rfl _ _ rfl rfl rfl rfl ?_;intro W7 h7 jI)
  refine bodyPost_ret (v:=.agg (clc (ofK 17 [z0,z1] l) (.slice A0 n0 c0))) (results_cell_row (p:=6) (ty:=47) rfl _ _ b6 47 _ (0,0) _ rfl h7 Tryz.underlying47 rfl dx) rfl ⟨rfl,?_⟩
  exact fi jE.out HE.out HF.out jI
 ·obtain ⟨z0,z1,z2,z3,g,off,cL,rfl,rfl,jO,mY,r0,r1,r2,r3⟩:=D4 hL (hn.trans (by decide)) jE.out HE.out
  have x0:=cq (kN z0 (by simp))
  have x1:=cq (kN z1 (by simp))
  have x2:=cq (kN z2 (by simp))
  have x3:=cq (kN z3 (by simp))
  clear hL kN hn
  have HF:=ah (KC.put (y:=ofK 18 [z0,z1,z2,z3] l) (u:=.slice A0 n0 c0) (KC.put (y:={ zCl with k:=18,p:=bu z0,g:=bu z1,c:=bu z2,n:=bu z3 }) (u:=zV) (KC.put (y:={ zCl with k:=18,p:=bu z0,g:=bu z1,c:=bu z2 }) (u:=zV) (KC.put (y:={ zCl with k:=18,p:=bu z0,g:=bu z1 }) (u:=zV) (KC.put (y:={ zCl with k:=18,p:=bu z0 }) (u:=zV) HK.out 1 (.int .i64 (bu z0)) rfl) 3 (.int .i64 (bu z1)) rfl) 4 (.int .i64 (bu z2)) rfl) 2 (.int .i64 (bu z3)) rfl) 11 (.slice A0 n0 c0) rfl)
  have HB:=ah (b6F kH.out HE.out HF.out)
  go_upto_region 60 with (fail)
  go_wp2_with (first|refine lK HF.out.1 rfl _ rfl rfl ?_|refine sK HB.out HF.out.1 rfl _ _ rfl rfl rfl rfl ?_;intro W7 h7 jI)
  refine bodyPost_ret (v:=.agg (clc (ofK 18 [z0,z1,z2,z3] l) (.slice A0 n0 c0))) (results_cell_row (p:=6) (ty:=47) rfl _ _ b6 47 _ (0,0) _ rfl h7 Tryz.underlying47 rfl dx) rfl ⟨rfl,?_⟩
  exact fi jE.out HE.out HF.out jI
 ·obtain ⟨z0,g,off,cL,rfl,rfl,jO,mY,r0⟩:=D1 hL (hn.trans (by decide)) jE.out HE.out
  have x0:=cq (kN z0 (by simp))
  clear hL kN hn
  have HF:=ah (KC.put (y:=ofK 19 [z0] l) (u:=.slice A0 n0 c0) (KC.put (y:={ zCl with k:=19,n:=bu z0 }) (u:=zV) HK.out 2 (.int .i64 (bu z0)) rfl) 11 (.slice A0 n0 c0) rfl)
  have HB:=ah (b6F kH.out HE.out HF.out)
  go_upto_region 60 with (fail)
  go_wp2_with (first|refine lK HF.out.1 rfl _ rfl rfl ?_|refine sK HB.out HF.out.1 rfl _ _ rfl rfl rfl rfl ?_;intro W7 h7 jI)
  refine bodyPost_ret (v:=.agg (clc (ofK 19 [z0] l) (.slice A0 n0 c0))) (results_cell_row (p:=6) (ty:=47) rfl _ _ b6 47 _ (0,0) _ rfl h7 Tryz.underlying47 rfl dx) rfl ⟨rfl,?_⟩
  exact fi jE.out HE.out HF.out jI
 ·obtain ⟨z0,g,off,cL,rfl,rfl,jO,mY,r0⟩:=D1 hL (hn.trans (by decide)) jE.out HE.out
  have x0:=cq (kN z0 (by simp))
  clear hL kN hn
  have HF:=ah (KC.put (y:=ofK 20 [z0] l) (u:=.slice A0 n0 c0) (KC.put (y:={ zCl with k:=20,n:=bu z0 }) (u:=zV) HK.out 2 (.int .i64 (bu z0)) rfl) 11 (.slice A0 n0 c0) rfl)
  have HB:=ah (b6F kH.out HE.out HF.out)
  go_upto_region 60 with (fail)
  go_wp2_with (first|refine lK HF.out.1 rfl _ rfl rfl ?_|refine sK HB.out HF.out.1 rfl _ _ rfl rfl rfl rfl ?_;intro W7 h7 jI)
  refine bodyPost_ret (v:=.agg (clc (ofK 20 [z0] l) (.slice A0 n0 c0))) (results_cell_row (p:=6) (ty:=47) rfl _ _ b6 47 _ (0,0) _ rfl h7 Tryz.underlying47 rfl dx) rfl ⟨rfl,?_⟩
  exact fi jE.out HE.out HF.out jI
 ·obtain rfl:L = []:=List.eq_nil_of_length_eq_zero hn
  obtain ⟨AL,cL,rfl⟩:=RE.form hL
  clear hL kN hn
  have HF:=ah (KC.put (y:=ofK 21 [] l) (u:=.slice A0 n0 c0) HK.out 11 (.slice A0 n0 c0) rfl)
  have HB:=ah (b6F kH.out HE.out HF.out)
  go_upto_region 60 with (fail)
  go_wp2_with (first|refine lK HF.out.1 rfl _ rfl rfl ?_|refine sK HB.out HF.out.1 rfl _ _ rfl rfl rfl rfl ?_;intro W7 h7 jI)
  refine bodyPost_ret (v:=.agg (clc (ofK 21 [] l) (.slice A0 n0 c0))) (results_cell_row (p:=6) (ty:=47) rfl _ _ b6 47 _ (0,0) _ rfl h7 Tryz.underlying47 rfl dx) rfl ⟨rfl,?_⟩
  exact fi jE.out HE.out HF.out jI
 ·have hn:L.length = 0:=hn.trans (by show ((fld k).flatMap _).length = 0;rw [ri hk];rfl)
  obtain rfl:L = []:=List.eq_nil_of_length_eq_zero hn
  obtain ⟨AL,cL,rfl⟩:=RE.form hL
  clear hL kN hn
  have HF:=ah (KC.put (y:=zB k l) (u:=.slice A0 n0 c0) HK.out 11 (.slice A0 n0 c0) rfl)
  have HB:=ah (b6F kH.out HE.out HF.out)
  have e1:((k:Int) == 1) = false:=beq_false_of_ne (by omega)
  have g1:decide (k = 1) = false:=ac (by omega)
  have e2:((k:Int) == 2) = false:=beq_false_of_ne (by omega)
  have g2:decide (k = 2) = false:=ac (by omega)
  have e3:((k:Int) == 3) = false:=beq_false_of_ne (by omega)
  have g3:decide (k = 3) = false:=ac (by omega)
  have e4:((k:Int) == 4) = false:=beq_false_of_ne (by omega)
  have g4:decide (k = 4) = false:=ac (by omega)
  have e5:((k:Int) == 5) = false:=beq_false_of_ne (by omega)
  have g5:decide (k = 5) = false:=ac (by omega)
  have e6:((k:Int) == 6) = false:=beq_false_of_ne (by omega)
  have g6:decide (k = 6) = false:=ac (by omega)
  have e7:((k:Int) == 7) = false:=beq_false_of_ne (by omega)
  have g7:decide (k = 7) = false:=ac (by omega)
  have e8:((k:Int) == 8) = false:=beq_false_of_ne (by omega)
  have g8:decide (k = 8) = false:=ac (by omega)
  have e9:((k:Int) == 9) = false:=beq_false_of_ne (by omega)
  have g9:decide (k = 9) = false:=ac (by omega)
  have e10:((k:Int) == 10) = false:=beq_false_of_ne (by omega)
  have g10:decide (k = 10) = false:=ac (by omega)
  have e11:((k:Int) == 11) = false:=beq_false_of_ne (by omega)
  have g11:decide (k = 11) = false:=ac (by omega)
  have e12:((k:Int) == 12) = false:=beq_false_of_ne (by omega)
  have g12:decide (k = 12) = false:=ac (by omega)
  have e13:((k:Int) == 13) = false:=beq_false_of_ne (by omega)
  have g13:decide (k = 13) = false:=ac (by omega)
  have e14:((k:Int) == 14) = false:=beq_false_of_ne (by omega)
  have g14:decide (k = 14) = false:=ac (by omega)
  have e15:((k:Int) == 15) = false:=beq_false_of_ne (by omega)
  have g15:decide (k = 15) = false:=ac (by omega)
  have e16:((k:Int) == 16) = false:=beq_false_of_ne (by omega)
  have g16:decide (k = 16) = false:=ac (by omega)
  have e17:((k:Int) == 17) = false:=beq_false_of_ne (by omega)
  have g17:decide (k = 17) = false:=ac (by omega)
  have e18:((k:Int) == 18) = false:=beq_false_of_ne (by omega)
  have g18:decide (k = 18) = false:=ac (by omega)
  have e19:((k:Int) == 19) = false:=beq_false_of_ne (by omega)
  have g19:decide (k = 19) = false:=ac (by omega)
  have e20:((k:Int) == 20) = false:=beq_false_of_ne (by omega)
  have g20:decide (k = 20) = false:=ac (by omega)
  have e21:((k:Int) == 21) = false:=beq_false_of_ne (by omega)
  have g21:decide (k = 21) = false:=ac (by omega)
  go_upto_region 60 with (fail)
  go_wp2_with (first|refine lK HF.out.1 rfl _ rfl rfl ?_|refine sK HB.out HF.out.1 rfl _ _ rfl rfl rfl rfl ?_;intro W7 h7 jI)
  have hof:ofK k [] l = zB k l:=by obtain ⟨j,rfl⟩:∃j,k = j+22:=⟨k - 22,by omega⟩;rfl
  rw [hof]
  refine bodyPost_ret (v:=.agg (clc (zB k l) (.slice A0 n0 c0))) (results_cell_row (p:=6) (ty:=47) rfl _ _ b6 47 _ (0,0) _ rfl h7 Tryz.underlying47 rfl dx) rfl ⟨rfl,?_⟩
  exact fi jE.out HE.out HF.out jI
end Go.Proofs.YtfoleblcaloeoaaGreatDoor
