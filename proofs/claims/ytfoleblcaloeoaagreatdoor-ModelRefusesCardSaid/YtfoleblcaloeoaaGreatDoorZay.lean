/- Texts merged for the claim. -/
import Derived.Test.YtfoleblcaloeoaaGreatDoorZax
import Derived.Test.YtfoleblcaloeoaaGreatDoorTie
import Derived.LaidMore
import Derived.Lay
import Derived.MakeChecks
set_option maxHeartbeats 40000000
set_option maxRecDepth 20000
namespace Go.Proofs.YtfoleblcaloeoaaGreatDoor
open Go Go.RowKit
theorem zero39:∀w,(zeroValue 45).run Tryz.prog w = .ok (.agg #[.int .u8 0,.int .u8 0]) w:=by
 have h:(Tryz.prog.info? 45).map (fun i=>(i.zero,i.size)) = some (some (.agg #[.int .u8 0,.int .u8 0]),2):=by kernel_rfl
 exact (zero_of_info h).1
theorem kx:(Tryz.prog.info? 45).map (·.size) = some 2:=by kernel_rfl
abbrev PolB (w:World) (b:Nat) (k m:Int):Prop:=Blk w b 45 #[.int .u8 k,.int .u8 m]
section
variable {ops:Array Oper} {rest:List Oper} {o:Oper} {a:Act} {w:World} {Q:Exit→Act→World→Prop} {b:Nat} {k m k' m':Int}
theorem cE (w:World):(Instr.alloc 45 true (.tuple #[])).run Tryz.prog w = .ok (.pointer (some ⟨w.heap.size,0,none⟩)) (w.alloc (.cells #[.int .u8 0,.int .u8 0] 45)):=by
 simp [Instr.alloc,Sem.run_bind,zero39,newVar,newRow,run_newObj_alloc,Value.cells]
theorem jw (hg:o.guard = none) (ho:o.op = .alloc 45)
  (h:∀w',PolB w' w.heap.size 0 0→Chg [] w w'→wpList Tryz.prog ops Q rest (a.put o.dst (.pointer (some ⟨w.heap.size,0,none⟩))) w'):wpList Tryz.prog ops Q (o :: rest) a w :=
 Great.wpList_runTo hg _ rfl _ _ (by unfold execOp;simp only [ho,Sem.run_bind,cE,Sem.run_pure,Result.andThen_ok]) (h _ (Blk.new w _ _) ((Chg.refl [] w).alloc _))
theorem iw (hg:o.guard = none) (z t:Operand) (ho:o.op = .store 45 z t) (hx:a.eval z = .pointer (some ⟨b,0,none⟩)) (hy:a.eval t = .agg #[.int .u8 k',.int .u8 m']) (h0:PolB w b k m)
  (h:∀w',PolB w' b k' m'→Chg [b] w w'→wpList Tryz.prog ops Q rest (a.put o.dst undef) w'):wpList Tryz.prog ops Q (o :: rest) a w :=
 wpList_store_row hg 45 z t ho b _ hx hy 45 _ h0 kx rfl (by simp [show ∀k z,(Value.int k z).oneCell' = true from fun _ _=>rfl]) (h _ (setRow_heap w b _ _ _ _ h0) ((Chg.refl [b] w).setRow (.inl (by simp)) _))
theorem yh (hg:o.guard = none) (z:Operand) (ho:o.op = .load 45 z) (hx:a.eval z = .pointer (some ⟨b,0,none⟩)) (h0:PolB w b k m) (h:wpList Tryz.prog ops Q rest (a.put o.dst (.agg #[.int .u8 k,.int .u8 m])) w):wpList Tryz.prog ops Q (o :: rest) a w :=
 wpList_load_row hg 45 z ho b hx 45 _ (0,0) _ h0 Tryz.underlying45 rfl kx h
end
theorem of_pr {w:World} {b:Nat} {p:Pr} {d:Nat} {FA:List Nat} {qp qo:Nat} {gp' go':Int→Option Value} {gp:Int→Nat} (hP:PIn w b p d FA qp qo gp' go' gp) (q:Int) :
  Calls Tryz.prog 49 #[.pointer (some ⟨b,0,none⟩),.int .i64 q] w fun e w'=>e = .returned (.agg #[.int .u8 (ky p q).1,.int .u8 (ky p q).2])∧Chg [] w w':=by
 have HP:=ah (fun W (h:Chg [] w W)=>hP.cp (CP.of0 (F:=fun _=>False) h) (fun _ _ h=>h))
 have BB:=ah hP.ho
 clear hP
 obtain ⟨R,hR⟩:∃R,R = ky p q:=⟨_,rfl⟩
 rw [← hR]
 have HR:=ah hR
 clear hR
 go_enter Tryz.func49,Tryz.ntmps49
 go_upto_region 1 with (refine jw rfl rfl ?_;intro W1 h4 jH)
 have tO:=HP.out W1 jH
 have lD:=ah jH
 have H4:=ah h4
 have q2:W1.cell? ⟨b,2,none⟩ = some (.map (some qo)):=by simpa [prc] using tO.blk.cell 2
 have l1:=tO.blk.lt
 cases hq:p.ow q with
 | some y =>
  obtain ⟨yk,ym⟩:=y
  have rF:=dy Tryz.underlying111 Tryz.underlying3 tO.mo (show go' q = some (.agg #[.int .u8 yk,.int .u8 ym]) by rw [BB.out,hq];rfl) true
  have hr:ky p q = (yk,ym):=by unfold ky;rw [hq];rfl
  obtain rfl:R = (yk,ym):=HR.out.trans hr
  clear hq hr tO h4 jH
  go_wp2_with (first|refine jw rfl rfl ?_;intro W2 h5 jA;have H42:=ah (H4.out.chg jA ab);have H5:=ah h5;have jU:=ah (lD.out.stay jA);have kP:=ah (show w.heap.size≠W1.heap.size by have:=H4.out.lt;omega);clear h5 jA|refine iw (b:=W1.heap.size) (k':=yk) (m':=ym) rfl _ _ rfl rfl rfl H5.out ?_;intro W3 h53 jD|refine yh (b:=W1.heap.size) rfl _ rfl rfl h53 ?_|refine iw (b:=w.heap.size) (k':=yk) (m':=ym) rfl _ _ rfl rfl rfl (H42.out.chg jD (by simp;exact kP.out)) ?_;intro W4 h44 jT)
  refine bodyPost_ret (v:=.agg #[.int .u8 yk,.int .u8 ym]) (results_cell_row (p:=4) (ty:=45) rfl _ _ w.heap.size 45 _ (0,0) _ rfl h44 Tryz.underlying45 rfl kx) rfl ⟨rfl,?_⟩
  exact ((jU.out.up [w.heap.size,W1.heap.size]).trans jD (fun y hy=>.inl (by simp at hy;simp [hy]))).trans jT (fun y hy=>.inl (by simp at hy;simp [hy])) |>.mono (fun y hy=>.inr (by simp at hy;have:=lD.out.size;omega))
 | none =>
  have rF:=ej Tryz.underlying111 Tryz.underlying3 tO.mo (show go' q = none by rw [BB.out,hq];rfl) (zero39 W1) true
  have hr:ky p q = (p.pk,p.pm):=by unfold ky;rw [hq];rfl
  obtain rfl:R = (p.pk,p.pm):=HR.out.trans hr
  clear hq hr tO h4 jH
  go_wp2_with (first|refine jw rfl rfl ?_;intro W2 h5 jA;have H42:=ah (H4.out.chg jA ab);have H5:=ah h5;have jU:=ah (lD.out.stay jA);have kP:=ah (show w.heap.size≠W1.heap.size by have:=H4.out.lt;omega);clear h5 jA|refine iw (b:=W1.heap.size) (k':=0) (m':=0) rfl _ _ rfl rfl rfl H5.out ?_;intro W3 h53 jD;have jE:=ah ((jU.out.up [W1.heap.size]).and_ jD);have H43:=ah (H42.out.chg jD (by simp;exact kP.out));clear jD;have Em:=HP.out W3 (jE.out.mono (fun y hy=>.inr (by simp at hy;have:=lD.out.size;omega)));have q3:W3.cell? ⟨b,3,none⟩ = some (.int .u8 p.pk):=(by simpa [prc] using Em.blk.cell 3);have q4:W3.cell? ⟨b,4,none⟩ = some (.int .u8 p.pm):=(by simpa [prc] using Em.blk.cell 4);have l3:=Em.blk.lt;clear Em|refine iw (b:=w.heap.size) (k':=p.pk) (m':=p.pm) rfl _ _ rfl rfl rfl H43.out ?_;intro W4 h44 jT)
  refine bodyPost_ret (v:=.agg #[.int .u8 p.pk,.int .u8 p.pm]) (results_cell_row (p:=4) (ty:=45) rfl _ _ w.heap.size 45 _ (0,0) _ rfl h44 Tryz.underlying45 rfl kx) rfl ⟨rfl,?_⟩
  exact ((jE.out.mono (fun y hy=>.inl (by simp at hy;simp [hy]))).trans jT (fun y hy=>.inl (by simp at hy;simp [hy])):Chg [w.heap.size,W1.heap.size] w W4) |>.mono (fun y hy=>.inr (by simp at hy;have:=lD.out.size;omega))
section
variable {w W:World} {m:Nat} {M:Mo} {O:Nat→Prop} {bp bo be:Nat} {fp fo fe:Int→Option Value} {gb:Int→Nat} {GF:Int→Nat→Prop} {ov:Int→Value}
theorem pol_end (hI:MIn w m M bp bo be fp fo fe gb GF ov) (hO:∀k,FMo M m bp bo be GF ov k→O k) (hl:∀k,O k→k < w.heap.size) {pid:Int} {p:Pr} (hp:M.pr pid = some p)
  {d:Nat} {FA:List Nat} {qp qo:Nat} {gp' go':Int→Option Value} {gp:Int→Nat} (hP:PIn w (gb pid) p d FA qp qo gp' go' gp) (lH:∀k,FPr p (gb pid) FA qp qo gp k→GF pid k) (pA:∀k,GF pid k→k < w.heap.size)
  {pk pm:Nat} (hk:pk < 256∧pm < 256) (hc:Chg [gb pid] w W) (hb:Blk W (gb pid) 113 (prc d qp qo { p with pk:=pk,pm:=pm })) :
  CP O w W∧∃O',MMem W m { M with pr:=upd M.pr pid (some { p with pk:=pk,pm:=pm }) } O'∧∀k,O' k→O k:=by
 have BH:∀k,GF pid k→O k:=fun k hk=>hO k (.inr (.inr (.inr (.inr (.inl ⟨pid,p,hp,hk⟩)))))
 have hG:CP (fun k=>k = gb pid) w W:=CP.of hc (fun k hk=>.inl (aa hk))
 obtain ⟨FB,FI,lO,wQ⟩:=hP.ar.tight
 have lY:=hc.size
 obtain ⟨r1,O',r2,r3⟩:=wu (F':=GF pid) hI hO hl hp (CP.of hc (fun k hk=>.inl (by obtain rfl:=aa hk;exact lH _ (.inl rfl)))) (p':={ p with pk:=pk,pm:=pm })
  ⟨d,FB,qp,qo,gp',go',gp,⟨hb,FI.cp hG (by
    rintro k hk rfl
    rcases wQ _ hk with ⟨cs,h⟩ | ⟨cs,h⟩
    ·exact Blk.ne_ h hP.blk (by decide) rfl
    ·exact Blk.ne_ h hP.blk (by decide) rfl),hP.sp,hP.mp.cp hG (fun e=>Blk.ne_map hP.blk hP.mp e.symm),hP.mo.cp hG (fun e=>Blk.ne_map hP.blk hP.mo e.symm),hP.hp,hP.ho,fun n B h=>(hP.pg n B h).cp hG (Blk.ne_ (hP.pg n B h).blk hP.blk (by decide)),hP.inj,hP.ne,hk.1,hk.2,hP.ow⟩,by
   rintro k (rfl | hk | rfl | rfl | ⟨n,B,h,rfl⟩)
   ·exact lH _ (.inl rfl)
   ·exact lH _ (.inr (.inl (lO k hk)))
   ·exact lH _ (.inr (.inr (.inl rfl)))
   ·exact lH _ (.inr (.inr (.inr (.inl rfl))))
   ·exact lH _ (.inr (.inr (.inr (.inr ⟨n,B,h,rfl⟩)))),fun k hk=>Nat.lt_of_lt_of_le (pA k hk) lY⟩ (fun k hk=>.inl hk)
 exact ⟨r1,O',r2,fun k hk=>(r3 k hk).elim id (BH k)⟩
theorem own_end (hI:MIn w m M bp bo be fp fo fe gb GF ov) (hO:∀k,FMo M m bp bo be GF ov k→O k) (hl:∀k,O k→k < w.heap.size) {pid:Int} {p:Pr} (hp:M.pr pid = some p)
  {d:Nat} {FA:List Nat} {qp qo:Nat} {gp' go':Int→Option Value} {gp:Int→Nat} (hP:PIn w (gb pid) p d FA qp qo gp' go' gp) (lH:∀k,FPr p (gb pid) FA qp qo gp k→GF pid k) (pA:∀k,GF pid k→k < w.heap.size)
  {ow':Int→Option (Nat × Nat)} {fo'':Int→Option Value} (hc:Chg [qo] w W) (hm:MapB W qo .i64 fo'') (ho:∀n,fo'' n = (ow' n).map fun q=>.agg #[.int .u8 q.1,.int .u8 q.2]) (hk:∀n q,ow' n = some q→q.1 < 256∧q.2 < 256) :
  CP O w W∧∃O',MMem W m { M with pr:=upd M.pr pid (some { p with ow:=ow' }) } O'∧∀k,O' k→O k:=by
 have BH:∀k,GF pid k→O k:=fun k hk=>hO k (.inr (.inr (.inr (.inr (.inl ⟨pid,p,hp,hk⟩)))))
 have hG:CP (fun k=>k = qo) w W:=CP.of hc (fun k hk=>.inl (aa hk))
 obtain ⟨FB,FI,lO,wQ⟩:=hP.ar.tight
 have lY:=hc.size
 obtain ⟨r1,O',r2,r3⟩:=wu (F':=GF pid) hI hO hl hp (CP.of hc (fun k hk=>.inl (by obtain rfl:=aa hk;exact lH _ (.inr (.inr (.inr (.inl rfl))))))) (p':={ p with ow:=ow' })
  ⟨d,FB,qp,qo,gp',fo'',gp,⟨hP.blk.cp hG (Blk.ne_map hP.blk hP.mo),FI.cp hG (by
    rintro k hk rfl
    rcases wQ _ hk with ⟨cs,h⟩ | ⟨cs,h⟩
    ·exact Blk.ne_map h hP.mo rfl
    ·exact Blk.ne_map h hP.mo rfl),hP.sp,hP.mp.cp hG hP.ne,hm,hP.hp,ho,fun n B h=>(hP.pg n B h).cp hG (Blk.ne_map (hP.pg n B h).blk hP.mo),hP.inj,hP.ne,hP.pk,hP.pm,hk⟩,by
   rintro k (rfl | hk | rfl | rfl | ⟨n,B,h,rfl⟩)
   ·exact lH _ (.inl rfl)
   ·exact lH _ (.inr (.inl (lO k hk)))
   ·exact lH _ (.inr (.inr (.inl rfl)))
   ·exact lH _ (.inr (.inr (.inr (.inl rfl))))
   ·exact lH _ (.inr (.inr (.inr (.inr ⟨n,B,h,rfl⟩)))),fun k hk=>Nat.lt_of_lt_of_le (pA k hk) lY⟩ (fun k hk=>.inl hk)
 exact ⟨r1,O',r2,fun k hk=>(r3 k hk).elim id (BH k)⟩
end
theorem iS {w:World} {m:Nat} {M:Mo} {O:Nat→Prop} {bp bo be:Nat} {fp fo fe:Int→Option Value} {gb:Int→Nat} {GF:Int→Nat→Prop} {ov:Int→Value}
  (hI:MIn w m M bp bo be fp fo fe gb GF ov) (hO:∀k,FMo M m bp bo be GF ov k→O k) (hl:∀k,O k→k < w.heap.size) {pid:Int} {p:Pr} (hp:M.pr pid = some p)
  {b4 b8:Nat} {x:Cl} {v:Value} (h4:KB w b4 x v) (h8:Blk w b8 103 #[.pointer (some ⟨gb pid,0,none⟩)]) (hk:x.ok < 256∧x.om < 256) :
  Calls Tryz.prog 67 #[.pointer (some ⟨b4,0,none⟩),.pointer (some ⟨b8,0,none⟩)] w fun e W'=>e = .returned (.tuple #[])∧CP O w W'∧∃O',MMem W' m { M with pr:=upd M.pr pid (some { p with pk:=x.ok,pm:=x.om }) } O'∧∀k,O' k→O k:=by
 obtain ⟨d,FA,qp,qo,gp',go',gp,hP,lH,pA⟩:=hI.pr pid p hp
 have lT:=ah (fun W (hc:Chg [gb pid] w W)=>@pol_end w W m M O bp bo be fp fo fe gb GF ov hI hO hl pid p hp d FA qp qo gp' go' gp hP lH pA x.ok x.om hk hc)
 obtain ⟨-,-,-,-,-,-,-,-,c8,c9,-,-,l4,-⟩:=KB.cells h4
 have q8:w.cell? ⟨b8,0,none⟩ = some (.pointer (some ⟨gb pid,0,none⟩)):=by simpa using h8.cell 0
 have l8:=h8.lt
 have lb:=hP.blk.lt
 have HT:=ah (show w.there (gb pid) 3 2 from fun j hj=>by
  rw [hP.blk.cell,hP.blk.frozen]
  refine ⟨?_,rfl⟩
  rcases (by omega:j = 0∨j = 1) with rfl | rfl <;> simp [prc])
 have HS:=ah (show Blk (w.setCells (gb pid) 3 [.int .u8 x.ok,.int .u8 x.om]) (gb pid) 113 (prc d qp qo { p with pk:=x.ok,pm:=x.om }) from
  (hP.blk.set_ 3 (.int .u8 x.ok)).set_ 4 (.int .u8 x.om))
 have HC:=ah (show Chg [gb pid] w (w.setCells (gb pid) 3 [.int .u8 x.ok,.int .u8 x.om]) from
  ((Chg.refl [gb pid] w).setCell (p:=⟨gb pid,3,none⟩) (.inl (by simp)) _).setCell (p:=⟨gb pid,4,none⟩) (.inl (by simp)) _)
 clear hI hO hl hp hP lH pA h4 h8 hk
 go_enter Tryz.func67,Tryz.ntmps67
 go_wp2_with (refine wpList_store_mid rfl 45 _ _ rfl (gb pid) 3 #[.int .u8 x.ok,.int .u8 x.om] rfl rfl HT.out kx (by simp [show ∀k z,(Value.int k z).oneCell' = true from fun _ _=>rfl]) ?_)
 go_end0
 exact ⟨rfl,lT.out _ HC.out HS.out⟩
theorem inR_add {g:Int} {k:Nat} {α:Type} {f:Int→Option α} {u:α} (y:Int):(if y = g+(k:Int) then some u else if inR g (k:Int) y then some u else f y) = if inR g ((k+1:Nat):Int) y then some u else f y:=by
 unfold inR
 by_cases h1:y = g+(k:Int)
 ·rw [if_pos h1,if_pos (by simp;omega)]
 ·rw [if_neg h1]
  by_cases h2:g≤y∧y < g+(k:Int)
  ·rw [if_pos (by simpa using h2),if_pos (by simp;omega)]
  ·rw [if_neg (by simpa using h2),if_neg (by simp;omega)]
theorem inR_none {g:Int} {α:Type} {f:Int→Option α} {u:α} (y:Int):f y = if inR g ((0:Nat):Int) y then some u else f y:=by
 unfold inR
 rw [if_neg (by simp)]
theorem mbind_do {w:World} {m:Nat} {M:Mo} {O:Nat→Prop} {bp bo be:Nat} {fp fo fe:Int→Option Value} {gb:Int→Nat} {GF:Int→Nat→Prop} {ov:Int→Value}
  (hI:MIn w m M bp bo be fp fo fe gb GF ov) (hO:∀k,FMo M m bp bo be GF ov k→O k) (hl:∀k,O k→k < w.heap.size) {pid:Int} {p:Pr} (hp:M.pr pid = some p)
  {b4 b8:Nat} {x:Cl} {v:Value} (h4:KB w b4 x v) (h8:Blk w b8 103 #[.pointer (some ⟨gb pid,0,none⟩)]) (hk:x.ok < 256∧x.om < 256) (hx:0≤x.g∧x.g≤1024∧0≤x.c∧x.c≤1024) :
  Calls Tryz.prog 71 #[.pointer (some ⟨b4,0,none⟩),.pointer (some ⟨b8,0,none⟩)] w fun e W'=>e = .returned (.tuple #[])∧CP O w W'∧∃O',MMem W' m { M with pr:=upd M.pr pid (some { p with ow:=fun q=>if inR x.g x.c q then some (x.ok,x.om) else p.ow q }) } O'∧∀k,O' k→O k:=by
 obtain ⟨d,FA,qp,qo,gp',go',gp,hP,lH,pA⟩:=hI.pr pid p hp
 have lT:=ah (fun W (hc:Chg [qo] w W) (hm:MapB W qo .i64 fun q=>if inR x.g x.c q then some (.agg #[.int .u8 x.ok,.int .u8 x.om]) else go' q)=>@own_end w W m M O bp bo be fp fo fe gb GF ov hI hO hl pid p hp d FA qp qo gp' go' gp hP lH pA (fun q=>if inR x.g x.c q then some (x.ok,x.om) else p.ow q) _ hc hm
  (fun n=>by
   show (if inR x.g x.c n then some (Value.agg #[.int .u8 x.ok,.int .u8 x.om]) else go' n) = (if inR x.g x.c n then some (x.ok,x.om) else p.ow n).map _
   by_cases hr:inR x.g x.c n = true
   ·rw [if_pos hr,if_pos hr];rfl
   ·rw [if_neg hr,if_neg hr];exact hP.ho n)
  (fun n q e=>by
   replace e:(if inR x.g x.c n then some (x.ok,x.om) else p.ow n) = some q:=e
   by_cases hr:inR x.g x.c n = true
   ·rw [if_pos hr] at e;obtain rfl:=Option.some.inj e;exact hk
   ·rw [if_neg hr] at e;exact hP.ow n q e))
 obtain ⟨cn,vM⟩:∃n:Nat,x.c = n:=⟨x.c.toNat,by omega⟩
 have Di:(cn:Int)≤1024:=by omega
 have HG:=ah (And.intro hx.1 (And.intro hx.2.1 vM))
 have jT:=(KB.cells h4).2.2.2.2.1
 have l4:=h4.lt
 rw [vM] at jT lT
 have HN:=ah (And.intro (show b4≠qo from Blk.ne_map h4 hP.mo) (And.intro (show b8≠qo from Blk.ne_map h8 hP.mo) (show gb pid≠qo from Blk.ne_map hP.blk hP.mo)))
 have Ec:=ah hP.mo
 have HK:=ah h4
 have H8:=ah h8
 have HB:=ah hP.blk
 clear hI hO hl hp hP lH pA h4 h8 hk hx vM
 go_enter Tryz.func71,Tryz.ntmps71
 go_upto_region 1 with (fail)
 clear jT l4
 go_loopw [5] (fun i wr=>∃(k:Nat),k≤cn∧i = .int .i64 k∧Hid (MapB wr qo .i64 fun q=>if inR x.g (k:Nat) q then some (.agg #[.int .u8 x.ok,.int .u8 x.om]) else go' q)∧Hid (Chg [qo] w wr)) (fun i _=>cn - (intOf i).toNat)
 case atStart=>exact ⟨0,by omega,rfl,ah (MapB.congr Ec.out inR_none),ah (Chg.refl _ _)⟩
 case round =>
  obtain ⟨k,hk,rfl,h1,hc⟩:=hrel
  have h4:KB wr b4 x v:=Blk.chg HK.out hc.out (by simp;exact HN.out.1)
  have h8:=H8.out.chg hc.out (by simp;exact HN.out.2.1)
  have hb:=HB.out.chg hc.out (by simp;exact HN.out.2.2)
  by_cases hkl:k < cn
  ·obtain ⟨-,-,-,qg,-,-,-,-,c8,c9,-,-,l4,-⟩:=KB.cells h4
   have q8:wr.cell? ⟨b8,0,none⟩ = some (.pointer (some ⟨gb pid,0,none⟩)):=by simpa using h8.cell 0
   have q2:wr.cell? ⟨gb pid,2,none⟩ = some (.map (some qo)):=by simpa [prc] using hb.cell 2
   have l8:=h8.lt
   have lb:=hb.lt
   have d1:decide ((k:Int) < (cn:Int)) = true:=ae (by omega)
   have oV:IntKind.i64.wrap (x.g+(k:Int)) = x.g+(k:Int):=by rw [IntKind.wrap_i64];have:=HG.out;omega
   have rG:IntKind.i64.wrap ((k:Int)+1) = (k:Int)+1:=by rw [IntKind.wrap_i64];omega
   have lZ:=ah hkl
   have Ac:=ah (show MapB wr.drew qo .i64 _ from h1.out)
   have zY:=ah (show Chg [qo] w wr.drew from hc.out.drew)
   clear hkl hk h1 hc h4 h8 hb
   go_upto_region 3 with (fail)
   refine ke [1,0,0,1,0,1,0,0,0,1,3] ?_
   go_wp2_with (first|refine ao fun K I=>?_;refine fd (val:=.agg #[.int .u8 x.ok,.int .u8 x.om]) _ _ _ rfl Tryz.underlying111 Tryz.underlying3 rfl rfl rfl Ac.out ?_;intro W5 h5 U;refine I _ _ ?_;clear I K|refine av fun K I=>?_|refine ai fun K I=>?_;go_simp;refine I _ _ ?_;clear I K|refine ao fun K I=>?_;go_simp|refine aj ?_)
   go_roundw
   case rel=>exact ⟨k+1,by have:=lZ.out;omega,by go_num,ah (MapB.congr h5 inR_add),ah (zY.out.and_ U)⟩
   case measure=>have:=lZ.out;simp [intOf];omega
  ·obtain rfl:k = cn:=by omega
   have HH:=ah (And.intro h1.out hc.out)
   obtain ⟨-,-,-,-,c4,-,-,-,-,-,-,-,l4,-⟩:=KB.cells h4
   clear h1 hc h4 h8 hb
   go_wp2_with fail
   go_end0
   rw [show x.c = (k:Int) from HG.out.2.2]
   exact ⟨rfl,lT.out wr HH.out.2 HH.out.1⟩
end Go.Proofs.YtfoleblcaloeoaaGreatDoor
namespace Go.Proofs.YtfoleblcaloeoaaGreatDoor
open Go Go.RowKit Go.ChangeShapes Go.WideShapes Go.ChangeAt Go.Deep
theorem dK:Tryz.prog.cellsOf 5 = 1:=by kernel_rfl
theorem cells9:Tryz.prog.cellsOf 9 = 1:=by kernel_rfl
theorem cells42:Tryz.prog.cellsOf 42 = 1:=by kernel_rfl
theorem cells43:Tryz.prog.cellsOf 43 = 1:=by kernel_rfl
theorem cells45:Tryz.prog.cellsOf 45 = 2:=by kernel_rfl
theorem zx:Tryz.prog.cellsOf 37 = 1:=by kernel_rfl
theorem fJ:Tryz.prog.cellsOf 38 = 1:=by kernel_rfl
theorem cells47:Tryz.prog.cellsOf 47 = 12:=by kernel_rfl
theorem cells31:Tryz.prog.cellsOf 31 = 1:=by kernel_rfl
theorem cells40:Tryz.prog.cellsOf 40 = 3:=by kernel_rfl
section
variable {H:Type} {enc:TypeId × Value→H} {w:World} {base:Nat} {spare:Nat→Bool} {held:Bool}
theorem eC {fuel:Nat} {v:Value} {x:DataW H × List MemPlace}
  (h:DataW.trod enc Tryz.prog w base spare held fuel 38 [v] = some x):∃l:List Nat,RB w v l∧(∀b∈l,b < 256)∧(l.length:Int)≤9223372036854775807:=by
 rcases open_ints Tryz.underlying38 Tryz.underlying5 dK h with ⟨tE,_⟩ | ⟨a,len,cap,zs,tE,_,hlc,uM,jN,_,nR,hwf⟩
 ·injection tE with e
  subst e
  exact ⟨[],Rd.nil w 1 0 none,by simp,by simp⟩
 ·injection tE with e
  subst e
  have hzl:len≤zs.length:=by rw [jN];split <;> omega
  have hl:((zs.take len).map Int.toNat).length = len:=by simp;omega
  have hb:∀i,(hi:i < zs.length)→0≤zs[i]∧zs[i]≤255:=fun i hi=>bounds_u8 (hwf _ (List.getElem_mem hi))
  refine ⟨(zs.take len).map Int.toNat,?_,fun b rD=>?_,by rw [hl];unfold maxLen at uM;omega⟩
  ·refine ⟨by rw [ef jb],some a,cap,by rw [hl],by rw [hl];exact hlc,fun Bh=>?_⟩
   rw [hl] at Bh
   obtain ⟨g,off,rfl⟩:=wt (by have:=nR 0 (by omega);exact this)
   refine ⟨g,off,rfl,fun j u hu=>?_⟩
   have hj:j < len:=by
    have:=(List.getElem?_eq_some_iff.1 hu).1
    rw [ef jb,hl] at this
    omega
   have hg:=tx jb ((zs.take len).map Int.toNat) j 0 (by rw [hl];exact hj) (by omega)
   rw [Nat.mul_one,Nat.add_zero,hu] at hg
   have hc:=nR j (by omega)
   rw [Addr.add_lit] at hc
   rw [hc,hg]
   have hz:=hb j (by omega)
   simp [ucl,List.getD,List.getElem?_eq_getElem (show j < zs.length by omega),Int.toNat_of_nonneg hz.1]
  ·obtain ⟨z,hz,rfl⟩:=List.mem_map.1 rD
   have:=bounds_u8 (hwf z (List.mem_of_mem_take hz))
   omega
theorem aK {fuel:Nat} {t:TypeId} (ht:Tryz.prog.underlying t = some (.int .u8)) {L:List Value} {i:Nat} {x:DataW H × List MemPlace} (h:DataW.trod enc Tryz.prog w base spare held fuel t ((L.drop i).take 1) = some x):∃z:Nat,L[i]? = some (.int .u8 z)∧z < 256:=by
 obtain ⟨z,e,_,hw⟩:=DataW.trod_int ht h
 have:=bounds_u8 hw
 exact ⟨z.toNat,by rw [wm e,Int.toNat_of_nonneg this.1],by omega⟩
theorem aJ {fuel:Nat} {t:TypeId} (ht:Tryz.prog.underlying t = some (.int .u64)) {L:List Value} {i:Nat} {x:DataW H × List MemPlace} (h:DataW.trod enc Tryz.prog w base spare held fuel t ((L.drop i).take 1) = some x):∃z:Nat,L[i]? = some (.int .u64 z)∧z < 18446744073709551616:=by
 obtain ⟨z,e,_,hw⟩:=DataW.trod_int ht h
 have:=bounds_u64 hw
 exact ⟨z.toNat,by rw [wm e,Int.toNat_of_nonneg this.1],by omega⟩
theorem oh {fuel:Nat} {t:TypeId} (ht:Tryz.prog.underlying t = some (.int .i64)) {L:List Value} {i:Nat} {x:DataW H × List MemPlace} (h:DataW.trod enc Tryz.prog w base spare held fuel t ((L.drop i).take 1) = some x):∃z:Int,L[i]? = some (.int .i64 z)∧-9223372036854775808≤z∧z≤9223372036854775807:=by
 obtain ⟨z,e,_,hw⟩:=DataW.trod_int ht h
 exact ⟨z,wm e,bounds_i64 hw⟩
theorem zd {fuel:Nat} {L:List Value} {i:Nat} {x:DataW H × List MemPlace} (hi:i < L.length) (h:DataW.trod enc Tryz.prog w base spare held fuel 38 ((L.drop i).take 1) = some x):∃(v:Value) (l:List Nat),L[i]? = some v∧RB w v l∧(∀b∈l,b < 256)∧(l.length:Int)≤9223372036854775807:=by
 have e:(L.drop i).take 1 = [L[i]]:=by rw [List.drop_eq_getElem_cons hi];rfl
 rw [e] at h
 obtain ⟨l,h1,h2,h3⟩:=eC h
 exact ⟨L[i],l,List.getElem?_eq_getElem hi,h1,h2,h3⟩
theorem iI {cs:Array Value} {d:DataW H} {p:List MemPlace} (hs:cs.size = 12) (h:DataW.Trod enc Tryz.prog w base spare held 47 (.agg cs) d p):∃(x:Cl) (v:Value),cs = clc x v∧x.Ok∧RB w v x.l∧(x.l.length:Int)≤9223372036854775807:=by
 obtain ⟨fuel,hf⟩:=h
 have tE:(Value.agg cs).cells.toList = cs.toList:=rfl
 rw [tE] at hf
 obtain ⟨n,hp⟩:=lz Tryz.underlying47 hf
 obtain ⟨y0,tK⟩:=cy hp 0 rfl 42 0 1 rfl rfl cells42
 obtain ⟨y1,DN⟩:=cy hp 1 rfl 3 1 1 rfl rfl jn
 obtain ⟨y2,GL⟩:=cy hp 2 rfl 3 2 1 rfl rfl jn
 obtain ⟨y3,hy3⟩:=cy hp 3 rfl 3 3 1 rfl rfl jn
 obtain ⟨y4,hy4⟩:=cy hp 4 rfl 3 4 1 rfl rfl jn
 obtain ⟨y5,hy5⟩:=cy hp 5 rfl 3 5 1 rfl rfl jn
 obtain ⟨y6,hy6⟩:=cy hp 6 rfl 3 6 1 rfl rfl jn
 obtain ⟨y7,hy7⟩:=cy hp 7 rfl 5 7 1 rfl rfl dK
 obtain ⟨y8,hy8⟩:=cy hp 8 rfl 45 8 2 rfl rfl cells45
 obtain ⟨y9,hy9⟩:=cy hp 9 rfl 37 10 1 rfl rfl zx
 obtain ⟨y10,hy10⟩:=cy hp 10 rfl 38 11 1 rfl rfl fJ
 obtain ⟨k,e0,hk⟩:=aK Tryz.underlying42 tK
 obtain ⟨p,e1,nM⟩:=oh Tryz.underlying3 DN
 obtain ⟨nn,e2,hn⟩:=oh Tryz.underlying3 GL
 obtain ⟨g,e3,hg⟩:=oh Tryz.underlying3 hy3
 obtain ⟨c,e4,hc⟩:=oh Tryz.underlying3 hy4
 obtain ⟨a,e5,ha⟩:=oh Tryz.underlying3 hy5
 obtain ⟨s,e6,pP⟩:=oh Tryz.underlying3 hy6
 obtain ⟨r,e7,hr⟩:=aK Tryz.underlying5 hy7
 obtain ⟨n',hq⟩:=lz Tryz.underlying45 hy8
 obtain ⟨z0,hz0⟩:=cy hq 0 rfl 43 0 1 rfl rfl cells43
 obtain ⟨z1,Ay⟩:=cy hq 1 rfl 5 1 1 rfl rfl dK
 obtain ⟨ok,e8,nS⟩:=aK Tryz.underlying43 hz0
 obtain ⟨om,e9,hom⟩:=aK Tryz.underlying5 Ay
 obtain ⟨hh,e10,hhh⟩:=aJ Tryz.underlying37 hy9
 obtain ⟨v,l,e11,hv,hl,jN⟩:=zd (by simp [hs]) hy10
 refine ⟨⟨k,p,nn,g,c,a,s,r,ok,om,hh,l⟩,v,?_,⟨hk,nM,hn,hg,hc,ha,pP,hr,nS,hom,hhh,hl⟩,hv,jN⟩
 apply Array.ext_getElem?
 intro i
 have ee:∀i,cs[i]? = cs.toList[i]?:=fun i=>(Array.getElem?_toList (xs:=cs)).symm
 rw [ee]
 match i with
 | 0=>exact e0
 | 1=>exact e1
 | 2=>exact e2
 | 3=>exact e3
 | 4=>exact e4
 | 5=>exact e5
 | 6=>exact e6
 | 7=>exact e7
 | 8=>exact uk e8
 | 9=>exact uk e9
 | 10=>exact e10
 | 11=>exact e11
 | i+12=>rw [List.getElem?_eq_none (by simp [hs])];rfl
theorem open_res {cs:Array Value} {d:DataW H} {p:List MemPlace} (hs:cs.size = 3) (h:DataW.Trod enc Tryz.prog w base spare held 40 (.agg cs) d p):∃(x:Rs) (v:Value),cs = rsc x v∧x.Ok∧RB w v x.l∧(x.l.length:Int)≤9223372036854775807:=by
 obtain ⟨fuel,hf⟩:=h
 have tE:(Value.agg cs).cells.toList = cs.toList:=rfl
 rw [tE] at hf
 obtain ⟨n,hp⟩:=lz Tryz.underlying40 hf
 obtain ⟨y0,tK⟩:=cy hp 0 rfl 31 0 1 rfl rfl cells31
 obtain ⟨y1,DN⟩:=cy hp 1 rfl 37 1 1 rfl rfl zx
 obtain ⟨y2,GL⟩:=cy hp 2 rfl 38 2 1 rfl rfl fJ
 obtain ⟨e,e0,he⟩:=oh Tryz.underlying31 tK
 obtain ⟨z,e1,hz⟩:=aJ Tryz.underlying37 DN
 obtain ⟨v,l,e2,hv,hl,jN⟩:=zd (by simp [hs]) GL
 refine ⟨⟨e,z,l⟩,v,?_,⟨he,hz,hl⟩,hv,jN⟩
 apply Array.ext_getElem?
 intro i
 have ee:∀i,cs[i]? = cs.toList[i]?:=fun i=>(Array.getElem?_toList (xs:=cs)).symm
 rw [ee]
 match i with
 | 0=>exact e0
 | 1=>exact e1
 | 2=>exact e2
 | i+3=>rw [List.getElem?_eq_none (by simp [hs])];rfl
end
abbrev LL:List (String × DataW Unit):=[("unicode/utf8.acceptRanges",Rows.laid_unicode_utf8_acceptRanges),("byre/calls.fields",Rows.laid_byre_calls_fields),("unicode/utf8.first",Rows.laid_unicode_utf8_first)]
def flds:List (List Nat):=(List.range 22).map fld
theorem iC {H:Type}:(Rows.laid_byre_calls_fields:DataW H) = .agg (flds.map fun l=>.lit (.string (l.map UInt8.ofNat))):=by kernel_rfl
theorem gY {W:World} (h:laidMetH Tryz.prog LL W):FW W:=by
 rw [MakeChecks.laidMetH_plain _ _ _ (by kernel_rfl)] at h
 obtain ⟨ps,⟨_,_,_,_,_,_,_,_,_,_,⟨g,t,cs,fuel,p,q,hg,ht,hv,hd,_,_⟩,_⟩,_,_⟩:=h
 obtain rfl:=Option.some.inj ((show Tryz.prog.globalNamed "byre/calls.fields" = some 0 by kernel_rfl).symm.trans hg)
 obtain rfl:=Option.some.inj ((show (Tryz.prog.globals[0]?).map (·.type) = some 150 by kernel_rfl).symm.trans ht)
 obtain ⟨xs,m,_,ex,_,hl,Gc⟩:=DataW.trod_array Tryz.underlying150 hd
 intro r hr
 have hE:=Gc r hr
 rw [cells9,Nat.mul_one,List.getElem?_eq_getElem (by omega)] at hE
 obtain ⟨z,e1,e2,_⟩:=DataW.trod_string Tryz.underlying9 hE
 have e3:(xs.map (·.1)) = flds.map fun l=>(.lit (.string (l.map UInt8.ofNat)):DataW Unit):=by
  have:=(Prod.mk.inj ex).1
  rw [iC] at this
  exact (DataW.agg.inj this).symm
 have e4:(xs.map (·.1))[r]? = (flds.map fun l=>(.lit (.string (l.map UInt8.ofNat)):DataW Unit))[r]?:=by rw [e3]
 have An:flds.length = 22:=by simp [flds]
 rw [List.getElem?_map,List.getElem?_map,List.getElem?_eq_getElem (by omega:r < xs.length),List.getElem?_eq_getElem (by omega:r < flds.length),e2] at e4
 have hz:z.data.toList = (fld r).map UInt8.ofNat:=by
  simp only [Option.map_some,Option.some.injEq,DataW.lit.injEq,Lit.string.injEq] at e4
  rw [e4]
  simp [flds]
 have BZ:z = dz (fld r):=by
  unfold dz
  cases z
  simp only at hz
  rw [← hz]
 rw [World.var?_cell hg hv r,← BZ]
 have:cs.toList[r]? = some (.string z):=by
  have h0:((cs.toList.drop r).take 1)[0]? = some (.string z):=by rw [e1];rfl
  simpa using h0
 simpa using this
end Go.Proofs.YtfoleblcaloeoaaGreatDoor
