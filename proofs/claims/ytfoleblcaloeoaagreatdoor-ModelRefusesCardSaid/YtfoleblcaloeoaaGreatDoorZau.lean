/- Texts merged for the claim. -/
import Derived.Test.YtfoleblcaloeoaaGreatDoorZat
set_option maxHeartbeats 40000000
set_option maxRecDepth 20000
namespace Go.Proofs.YtfoleblcaloeoaaGreatDoor
open Go Go.RowKit
section
variable {ops:Array Oper} {P:Program} {S:World→Prop} {Q:Exit→Act→World→Prop} {o:Oper} {rest:List Oper} {ks:List Nat} {gs:List (Option (Nat × Bool))} {a:Act} {w:World}
theorem ly (t:TypeId) (x y:Operand) (c:Bool) (ho:o.op = .lookup t x y c) {u z v:Value} (hx:a.eval x = u) (hy:a.eval y = z) (hv:∀w',S w'→(Instr.lookup t u z c).run P w' = .ok v w') (hS:S w) (h:wpG P S Q rest ks gs (a.put o.dst v) w) :
  wpG P S Q (o :: rest) (5 :: ks) (none :: gs) a w:=by
 refine dC hS v (fun w' J=>?_) h
 unfold StillAt execOp
 simp [ho,hx,hy,hv w' J,Sem.run_bind]
end
theorem qu {S:World→Prop} {Q:Exit→Act→World→Prop} {o:Oper} {rest:List Oper} {ks:List Nat} {gs:List (Option (Nat × Bool))} {a:Act} {w:World} {r:Rs} {v:Value} (parts:Array (Nat × Operand)) (ho:o.op = .build 40 parts)
  {l:List (Nat × Value)} (hb:BR l r v) (hl:(parts.map fun (i,x)=>(i,a.eval x)).toList = l) (h:wpG Tryz.prog S Q rest ks gs (a.put o.dst (.agg (rsc r v))) w):wpG Tryz.prog S Q (o :: rest) (0 :: ks) (none :: gs) a w :=
 ai (fun K I=>⟨_,fun w'=>by
  unfold execOp
  simp only [ho,Sem.run_bind,run_build w' 40 _ (rsc r v) (by rw [hl];exact hb.h),Sem.run_pure,Result.andThen_ok],I _ _ h⟩)
theorem iy {o:Oper} {a:Act} {w:World} {K:Act→World→Prop} {Q:Exit→Act→World→Prop} {b:Nat} {x y:Rs} {v u:Value} (z t:Operand) (ho:o.op = .store 40 z t) (hx:a.eval z = .pointer (some ⟨b,0,none⟩)) (hy:a.eval t = .agg (rsc y u)) (hu:u.oneCell' = true) (h0:XB w b x v)
  (h:∀w',XB w' b y u→Chg [b] w w'→K (a.put o.dst undef) w'):o.wp Tryz.prog a w K Q :=
 wp_store_row 40 z t ho b _ hx hy 40 _ h0 ct rfl (gG y hu) (h _ (setRow_heap w b _ _ _ _ h0) ((Chg.refl [b] w).setRow (.inl (by simp)) _))
theorem fE:∀w,(zeroValue 115).run Tryz.prog w = .ok (.pointer none) w:=by
 have h:(Tryz.prog.info? 115).map (fun i=>(i.zero,i.size)) = some (some (.pointer none),1):=by kernel_rfl
 exact (zero_of_info h).1
theorem zero99:∀w,(zeroValue 138).run Tryz.prog w = .ok (.agg (pgc zeroPg)) w:=by
 have h:(Tryz.prog.info? 138).map (fun i=>(i.zero,i.size)) = some (some (.agg (pgc zeroPg)),256):=by kernel_rfl
 exact (zero_of_info h).1
theorem cG (w:World):(Instr.alloc 138 true (.tuple #[])).run Tryz.prog w = .ok (.pointer (some ⟨w.heap.size,0,none⟩)) (w.alloc (.cells (pgc zeroPg) 138)):=by
 have e:Tryz.zeroCells138 = pgc zeroPg:=by kernel_rfl
 simp [Instr.alloc,Sem.run_bind,newVar,newRow,run_newObj_alloc,Value.cells,e]
theorem iu {ops:Array Oper} {rest:List Oper} {o:Oper} {a:Act} {w:World} {Q:Exit→Act→World→Prop} (hg:o.guard = none) (ho:o.op = .alloc 138)
  (h:wpList Tryz.prog ops Q rest (a.put o.dst (.pointer (some ⟨w.heap.size,0,none⟩))) (w.alloc (.cells (pgc zeroPg) 138))):wpList Tryz.prog ops Q (o :: rest) a w :=
 Great.wpList_runTo hg _ rfl _ _ (by unfold execOp;simp only [ho,Sem.run_bind,cG,Sem.run_pure,Result.andThen_ok]) h
theorem pd:zeroPg.length = 256:=by unfold zeroPg;rw [List.length_replicate]
theorem PgB.new (w:World):PgB (w.alloc (.cells (pgc zeroPg) 138)) w.heap.size zeroPg:=⟨Blk.new w _ _,pd,fun x hx=>by unfold zeroPg at hx;rw [List.mem_replicate] at hx;omega⟩
theorem mv:∀L:List Nat,fc ucl L = L.map fun (x:Nat)=>Value.int .u8 (x:Int)
 | []=>rfl
 | x :: L=>by
  have ih:=mv L
  unfold fc at ih ⊢
  rw [List.flatMap_cons,ih]
  rfl
theorem PgB.piece {w:World} {b:Nat} {l:List Nat} (h:PgB w b l) {at_ n c:Nat} (hn:at_+n≤256) (hc:n≤c):RB w (.slice (some ⟨b,at_,none⟩) n c) ((l.drop at_).take n):=by
 have hl:((l.drop at_).take n).length = n:=by rw [List.length_take,List.length_drop,h.len];omega
 refine ⟨by rw [ef jb],_,c,by rw [hl],by rw [hl];exact hc,fun hp=>⟨b,at_,rfl,fun j u hu=>?_⟩⟩
 rw [mv,List.getElem?_map,List.getElem?_take] at hu
 by_cases hj:j < n
 ·rw [if_pos hj,List.getElem?_drop] at hu
  rw [h.blk.cell]
  unfold pgc
  rw [List.getElem?_toArray,List.getElem?_map]
  exact hu
 ·rw [if_neg hj] at hu;cases hu
theorem size5:∀w,(sizeOf 5).run Tryz.prog w = .ok 1 w:=fun w=>by
 have h:(Tryz.prog.info? 5).map (·.size) = some 1:=by kernel_rfl
 cases hq:Tryz.prog.info? 5 with
 | none=>rw [hq] at h;cases h
 | some i =>
  have hi:i.size = 1:=by rw [hq] at h;simpa using h
  simp [sizeOf,typeInfo,hq,hi]
theorem uv {pb an sn:Nat} (h:an+sn≤256) (h1:1≤sn) (W:World) :
  (Instr.sliceAt 138 (.pointer (some ⟨pb,0,none⟩)) (some (.int .i64 (an:Int))) (some (.int .i64 ((an:Int)+(sn:Int)))) none).run Tryz.prog W = .ok (.slice (some ⟨pb,an,none⟩) sn (256 - an)) W:=by
 have e1:((an:Int)+(sn:Int)).toNat = an+sn:=by omega
 have e2:(0:Int)≤(an:Int)+(sn:Int):=by omega
 have e3:(an:Int)+(sn:Int)≤256:=by omega
 have e4:¬ 256 = an:=by omega
 have e5:(0:Int)≤(an:Int):=by omega
 have e6:(an:Int)≤(an:Int)+(sn:Int):=by omega
 have e7:an+sn - an = sn:=by omega
 simp [Instr.sliceAt,run_underlying Tryz.underlying138,Instr.sureAddr,Instr.sliceBounds,Instr.sliceBound,asIntOf,e1,e2,e3,e4,e5,e6,e7,size5,Addr.add_mid]
theorem eN {pb an:Nat} (h:an < 256) (W:World) :
  (Instr.sliceAt 138 (.pointer (some ⟨pb,0,none⟩)) (some (.int .i64 (an:Int))) none none).run Tryz.prog W = .ok (.slice (some ⟨pb,an,none⟩) (256 - an) (256 - an)) W:=by
 have e3:(an:Int)≤256:=by omega
 have e4:¬ 256 = an:=by omega
 have e5:(0:Int)≤(an:Int):=by omega
 have e6:¬ 256 < an:=by omega
 simp [Instr.sliceAt,run_underlying Tryz.underlying138,Instr.sureAddr,Instr.sliceBounds,Instr.sliceBound,asIntOf,e3,e4,e5,e6,size5,Addr.add_mid]
theorem load_any {w:World} {m:Nat} {M:Mo} {O:Nat→Prop} {X:List Nat} {bp bo be:Nat} {fp fo fe:Int→Option Value} {gb:Int→Nat} {GF:Int→Nat→Prop} {ov:Int→Value}
  (hI:MIn w m M bp bo be fp fo fe gb GF ov) (hO:∀k,FMo M m bp bo be GF ov k→O k) {pid:Int} {p:Pr} (hp:M.pr pid = some p)
  {x:Cl} {v:Value} (hk:x.k = 8) (hx:0≤x.a∧x.a < 262144∧1≤x.s∧x.a % 256+x.s≤256) :
  Calls Tryz.prog 69 #[.pointer (some ⟨gb pid,0,none⟩),.agg (clc x v)] w fun e w'=>AnsR w w' m O X ((cx p x).1,none) e∧Chg [] w w':=by
 obtain ⟨d,FA,qp,qo,gp',go',gp,hP,lH,pA⟩:=hI.pr pid p hp
 obtain ⟨W2,jB⟩:∃W2,W2 = ((w.alloc (.cells #[.pointer (some ⟨gb pid,0,none⟩)] 103)).alloc (.cells (clc x v) 47)).alloc (.cells (rsc zRs zV) 40):=⟨_,rfl⟩
 have jA:Chg [] w W2:=by rw [jB];exact (((Chg.refl [] w).alloc _).alloc _).alloc _
 have kU:Blk W2 w.heap.size 103 #[.pointer (some ⟨gb pid,0,none⟩)]:=by rw [jB];exact ((Blk.new w _ _).alloc _).alloc _
 have jS:KB W2 (w.heap.size+1) x v:=by
  have:=Blk.new (w.alloc (.cells #[.pointer (some ⟨gb pid,0,none⟩)] 103)) 47 (clc x v)
  rw [af] at this
  rw [jB]
  exact this.alloc _
 have kQ:XB W2 (w.heap.size+1+1) zRs zV:=by
  have:=Blk.new ((w.alloc (.cells #[.pointer (some ⟨gb pid,0,none⟩)] 103)).alloc (.cells (clc x v) 47)) 40 (rsc zRs zV)
  rw [af,af] at this
  rw [jB]
  exact this
 obtain ⟨b2,e2⟩:∃b,b = w.heap.size:=⟨_,rfl⟩
 obtain ⟨b3,e3⟩:∃b,b = w.heap.size+1:=⟨_,rfl⟩
 obtain ⟨b4,e4⟩:∃b,b = w.heap.size+1+1:=⟨_,rfl⟩
 rw [← e4] at kQ
 rw [← e3] at jS
 rw [← e2] at kU
 have HE:=ah (And.intro e2 (And.intro e3 e4))
 have HP:=ah (fun W (h:Chg [] W2 W)=>(show PIn W (gb pid) p d FA qp qo gp' go' gp from hP.cp (CP.of0 (F:=fun _=>False) (jA.stay h)) (fun _ _ h=>h)))
 have nC:=ah (fun W (h:Chg [] W2 W)=>kU.chg h ab)
 have jY:=ah (fun W (h:Chg [] W2 W)=>KB.stay jS h)
 have jW:=ah kQ
 have jU:=ah jA
 have jP:=ah jB
 obtain ⟨pg,tQ⟩:∃z:Int,z = x.a / 256:=⟨_,rfl⟩
 obtain ⟨an,rL⟩:∃z:Nat,(z:Int) = x.a % 256:=⟨(x.a % 256).toNat,by omega⟩
 obtain ⟨sn,qK⟩:∃z:Nat,(z:Int) = x.s:=⟨x.s.toNat,by omega⟩
 have HB:=ah (show an+sn≤256 by omega)
 have HS1:=ah (show 1≤sn by omega)
 have t1:(x.a % 256).toNat = an:=by omega
 have t2:x.s.toNat = sn:=by omega
 have hsn0:sn≤256:=by omega
 have han0:an≤256:=by omega
 have vS:wrap64 (x.a.tdiv 256) = pg:=by rw [tQ,Int.tdiv_eq_ediv_of_nonneg hx.1];unfold wrap64;omega
 have mD:wrap64 (x.a.tmod 256) = (an:Int):=by clear vS;rw [rL,Int.tmod_eq_emod_of_nonneg hx.1];unfold wrap64;omega
 have Ew:x.a.tmod 256 = (an:Int):=by clear vS mD;rw [rL,Int.tmod_eq_emod_of_nonneg hx.1]
 have Bn:wrap64 ((an:Int)+(sn:Int)) = (an:Int)+(sn:Int):=by clear vS mD;unfold wrap64;omega
 have Bv:=ah (show (cx p x).1 = (if Ar.rt p.rl pg = 0 then aq 7 else if Ar.rt p.rl pg % 2 = 0 then aq 190 else ⟨0,0,(((p.pg pg).getD zeroPg).drop an).take sn⟩) by
  unfold cx
  simp only [hk,if_true,← tQ]
  rw [t1,t2]
  split
  ·rfl
  ·split <;> rfl)
 have HK:=ah hk
 have tB:=ah (show ∀pb,(∃B,p.pg pg = some B∧pb = gp pg)→O pb from fun pb ⟨B,h2,h3⟩=>h3 ▸ hO _ (.inr (.inr (.inr (.inr (.inl ⟨pid,p,hp,lH _ (.inr (.inr (.inr (.inr ⟨pg,B,h2,rfl⟩))))⟩))))))
 obtain ⟨B',wE⟩:∃B,B = (p.pg pg).getD zeroPg:=⟨_,rfl⟩
 rw [← wE] at Bv
 obtain ⟨pa,th,zH⟩:∃(pa:Option Addr) (th:Bool),(th = true∧pa = some ⟨gp pg,0,none⟩∧p.pg pg = some B')∨(th = false∧pa = none∧p.pg pg = none∧B' = zeroPg):=by
  cases h:p.pg pg with
  | some B=>exact ⟨_,true,.inl ⟨rfl,rfl,by rw [wE,h];rfl⟩⟩
  | none=>exact ⟨_,false,.inr ⟨rfl,rfl,rfl,by rw [wE,h];rfl⟩⟩
 have oE:=ah zH
 have rA:=ah (show ∀W,Chg [] W2 W→(Instr.lookup 110 (.map (some qp)) (.int .i64 pg) true).run Tryz.prog W = .ok (.tuple #[.pointer pa,.bool th]) W from fun W h=>by
  rcases zH with ⟨rfl,rfl,hb⟩ | ⟨rfl,rfl,hb,-⟩
  ·exact dy Tryz.underlying110 Tryz.underlying3 (HP.out W h).mp (by rw [(HP.out W h).hp,hb];rfl) true
  ·exact ej Tryz.underlying110 Tryz.underlying3 (HP.out W h).mp (by rw [(HP.out W h).hp,hb];rfl) (fE W) true)
 have AP:=ah (fun W (h:Chg [] W2 W)=>Ar.rights_at (HP.out W h).ar hP.sp pg)
 clear hI hO hp hP lH pA kU jS kQ jA jB e2 e3 e4 hx zH wE tQ rL hk t1 t2
 obtain ⟨c0,-,-,-,-,c5,c6,-,-,-,-,-,l3,-⟩:=KB.cells (jY.out W2 (Chg.refl _ _))
 clear c0 c6
 go_enter Tryz.func69,Tryz.ntmps69
 go_upto_region 1 with (first|refine ax rfl _ rfl rfl ?_;try simp only [af]|refine bn rfl rfl ?_;try simp only [af];try rw [← jP.out])
 rw [← HE.out.2.2,← HE.out.2.1,← HE.out.1]
 go_cut [6,7] from 13 to 18 (fun z6 z7 W=>∃b6 b7,z6 = .pointer (some ⟨b6,0,none⟩)∧z7 = .pointer (some ⟨b7,0,none⟩)∧Blk W b6 3 #[.int .i64 pg]∧Blk W b7 3 #[.int .i64 (an:Nat)]∧Chg [] W2 W∧W2.heap.size≤b6∧W2.heap.size≤b7)
 case first =>
  refine ku [0,5,0,0,5,0,6,6,6,3] [none,none,none,none,none,none,none,none,none,none] [[0,1,2,3,4,5,6,7,8,9],[0,1,2,3,4,5,7,6,8,9]] (fun W=>Chg [] W2 W) (by kernel_rfl) (by kernel_rfl) (by kernel_rfl) (by kernel_rfl) (fun L9 nQ=>?_)
  have hS:Chg [] W2 W2.drew:=(Chg.refl [] W2).drew
  generalize W2.drew = W0 at hS ⊢
  simp only [List.mem_cons,List.mem_nil_iff,or_false] at nQ
  rcases nQ with rfl | rfl
  ·simp only [dt,List.filterMap_cons,List.filterMap_nil,List.getElem?_cons_succ,List.getElem?_cons_zero]
   go_wp2_with (first|refine al 3 _ rfl rfl (fun w' J=>cr Tryz.underlying3 (KB.cells (jY.out w' J)).2.2.2.2.2.1) hS ?_|refine av fun K I=>?_|refine ai fun K I=>?_;go_simp;refine I _ _ ?_;clear I K|refine ao fun K I=>?_;go_simp|refine aj ?_)
   (refine aw hS fun K I=>?_)
   go_simp
   refine I _ _ (hS.alloc _) ?_
   clear I K
   (refine aw (hS.alloc _) fun K I=>?_)
   go_simp
   refine I _ _ ((hS.alloc _).alloc _) ?_
   clear I K
   go_wp2_with (first|refine av fun K I=>?_|refine ai fun K I=>?_;go_simp;refine I _ _ ?_;clear I K|refine ao fun K I=>?_;go_simp|refine aj ?_)
   (refine aw ((hS.alloc _).alloc _) fun K I=>?_)
   go_simp
   refine I _ _ ((hS.alloc _).alloc _) ?_
   clear I K
   go_wp2_with (first|refine av fun K I=>?_|refine ai fun K I=>?_;go_simp;refine I _ _ ?_;clear I K|refine ao fun K I=>?_;go_simp|refine aj ?_)
   go_meet
   case rel=>exact ⟨_,_,rfl,rfl,((Blk.new W0 3 #[.int .i64 pg]).alloc _),(by have h:=Blk.new (W0.alloc (.cells #[.int .i64 pg] 3)) 3 #[.int .i64 (an:Nat)];rwa [af] at h),(hS.alloc _).alloc _,hS.size,Nat.le_succ_of_le hS.size⟩
  ·simp only [dt,List.filterMap_cons,List.filterMap_nil,List.getElem?_cons_succ,List.getElem?_cons_zero]
   go_wp2_with (first|refine al 3 _ rfl rfl (fun w' J=>cr Tryz.underlying3 (KB.cells (jY.out w' J)).2.2.2.2.2.1) hS ?_|refine av fun K I=>?_|refine ai fun K I=>?_;go_simp;refine I _ _ ?_;clear I K|refine ao fun K I=>?_;go_simp|refine aj ?_)
   (refine aw hS fun K I=>?_)
   go_simp
   refine I _ _ (hS.alloc _) ?_
   clear I K
   (refine aw (hS.alloc _) fun K I=>?_)
   go_simp
   refine I _ _ ((hS.alloc _).alloc _) ?_
   clear I K
   go_wp2_with (first|refine av fun K I=>?_|refine ai fun K I=>?_;go_simp;refine I _ _ ?_;clear I K|refine ao fun K I=>?_;go_simp|refine aj ?_)
   (refine aw ((hS.alloc _).alloc _) fun K I=>?_)
   go_simp
   refine I _ _ ((hS.alloc _).alloc _) ?_
   clear I K
   go_wp2_with (first|refine av fun K I=>?_|refine ai fun K I=>?_;go_simp;refine I _ _ ?_;clear I K|refine ao fun K I=>?_;go_simp|refine aj ?_)
   go_meet
   case rel=>exact ⟨_,_,rfl,rfl,(by have h:=Blk.new (W0.alloc (.cells #[.int .i64 (an:Nat)] 3)) 3 #[.int .i64 pg];rwa [af] at h),((Blk.new W0 3 #[.int .i64 (an:Nat)]).alloc _),(hS.alloc _).alloc _,Nat.le_succ_of_le hS.size,hS.size⟩
 obtain ⟨b6,b7,rfl,rfl,h6,h7,lC,yU⟩:=hcut
 have AG:=ah yU
 clear yU
 have H6:=ah h6
 have H7:=ah h7
 have kA:=ah lC
 have q2:wc.cell? ⟨b2,0,none⟩ = some (.pointer (some ⟨gb pid,0,none⟩)):=by simpa using (nC.out wc lC).cell 0
 have qA:wc.cell? ⟨gb pid,0,none⟩ = some (.pointer (some ⟨d,0,none⟩)):=by simpa [prc] using (HP.out wc lC).blk.cell 0
 have q6:wc.cell? ⟨b6,0,none⟩ = some (.int .i64 pg):=by simpa using h6.cell 0
 have l2:=(nC.out wc lC).lt
 have lb:=(HP.out wc lC).blk.lt
 have l6:=h6.lt
 obtain ⟨r0,rO⟩:∃z:Int,z = Ar.rt p.rl pg:=⟨_,rfl⟩
 have pO:Ar.hasB p.rl pg = decide (r0≠0):=by rw [rO];rfl
 have At:=(HP.out wc lC).sp.g pg
 rw [← rO] at Bv AP At
 rw [pO] at AP
 have AN:=ah At
 clear h6 h7 lC rO pO At c5 l3 vS mD Ew
 go_upto_region 2 with (fail)
 refine ke [1,0,0,1,1,3,0,0,0,0,0] ?_
 go_wp2_with (first|refine ao fun K I=>?_;go_simp;refine (AP.out _ kA.out.drew).mono ?_;rintro e W3 ⟨rfl,jD⟩;refine I _ _ ?_;clear I K;have jE:=ah (kA.out.drew.stay jD);have EM:=ah (H6.out.drew.chg jD ab);have Cd:=ah (H7.out.drew.chg jD ab);obtain ⟨c0,-,-,-,-,-,c6,-,-,-,-,-,l3,-⟩:=KB.cells (jY.out W3 jE.out);rw [HK.out] at c0;clear jD q2 qA q6 l2 lb l6|refine av fun K I=>?_|refine ai fun K I=>?_;go_simp;refine I _ _ ?_;clear I K|refine ao fun K I=>?_;go_simp|refine aj ?_)
 go_cut [11,12] from 31 to 39 (fun z11 z12 W=>∃b11,z11 = .pointer (some ⟨b11,0,none⟩)∧z12 = .bool th∧Blk W b11 115 #[.pointer pa]∧Chg [] W3 W∧W3.heap.size≤b11)
 case first =>
  clear c0 c6 l3
  refine rgt [5,0,0,5,5,5,0,0,0,6,3,0] [none,none,none,none,none,none,none,none,none,none,none,none] (fun W=>Chg [] W3 W) ?_
  have hS:Chg [] W3 W3.drew:=(Chg.refl [] W3).drew
  generalize W3.drew = W0 at hS ⊢
  go_wp2_with (first|refine al 103 _ rfl rfl (fun w' J=>dk Tryz.underlying103 (by simpa using (nC.out w' (jE.out.stay J)).cell 0)) hS ?_|refine al 110 _ rfl rfl (fun w' J=>ca Tryz.underlying110 (by simpa [prc] using (HP.out w' (jE.out.stay J)).blk.cell 1)) hS ?_|refine al 3 _ rfl rfl (fun w' J=>cr Tryz.underlying3 (by simpa using (EM.out.chg J ab).cell 0)) hS ?_|refine ly 110 _ _ true rfl rfl rfl (fun w' J=>rA.out w' (jE.out.stay J)) hS ?_|refine av fun K I=>?_|refine ai fun K I=>?_;go_simp;refine I _ _ ?_;clear I K|refine ao fun K I=>?_;go_simp|refine aj ?_)
  (refine aw hS fun K I=>?_)
  go_simp
  refine I _ _ (hS.alloc _) ?_
  clear I K
  go_wp2_with (first|refine av fun K I=>?_|refine ai fun K I=>?_;go_simp;refine I _ _ ?_;clear I K|refine ao fun K I=>?_;go_simp|refine aj ?_)
  go_meet
  case rel=>exact ⟨_,rfl,rfl,Blk.new W0 _ _,hS.alloc _,hS.size⟩
 obtain ⟨b11,rfl,rfl,mM,lC,wL⟩:=hcut
 have Cw:=ah wL
 have xG:=ah mM
 have Cr:=ah (jE.out.stay lC)
 have Cs:=ah lC
 clear mM lC wL c0 c6 l3
 go_upto_if 41 with (fail)
 go_cut [] from 41 to 42 (fun W=>∃pb,Blk W b11 115 #[.pointer (some ⟨pb,0,none⟩)]∧PgB W pb B'∧Chg [] W3 W∧((∃B,p.pg pg = some B∧pb = gp pg)∨(p.pg pg = none∧w.heap.size≤pb)))
 case first =>
  have l11:=xG.out.lt
  have f11:=xG.out.frozen
  rcases oE.out with ⟨ht,hv,hb⟩ | ⟨ht,hv,hb,hz⟩
  ·subst ht
   have Cc:=ah (show Blk wc b11 115 #[.pointer (some ⟨gp pg,0,none⟩)] by rw [← hv];exact xG.out)
   have qO:=ah ((HP.out wc Cr.out).pg pg B' hb)
   have oA:=ah (show (∃B,p.pg pg = some B∧gp pg = gp pg)∨(p.pg pg = none∧w.heap.size≤gp pg) from .inl ⟨_,hb,rfl⟩)
   clear hv hb
   go_wp2_with fail
   go_meet
   case rel=>exact ⟨_,Cc.out,qO.out,Cs.out,oA.out.imp (fun ⟨B,h,_⟩=>⟨B,h,rfl⟩) id⟩
  ·subst ht
   have HZ:=ah hz
   have oA:=ah (show (∃B,p.pg pg = some B∧wc.heap.size = gp pg)∨(p.pg pg = none∧w.heap.size≤wc.heap.size) from .inr ⟨hb,ag jU.out.size Cr.out.size⟩)
   have q11:wc.cell? ⟨b11,0,none⟩ = some (.pointer pa):=by simpa using xG.out.cell 0
   clear hv hb hz
   go_wp2_with (first|refine iu rfl rfl ?_;try go_simp)
   go_meet
   case rel =>
    refine ⟨wc.heap.size,(Blk.set_ xG.out 0 _).alloc _,?_,(Cs.out.setCell (p:=⟨b11,0,none⟩) (.inr Cw.out) _).alloc _,oA.out⟩
    have h:=PgB.new (wc.setCell ⟨b11,0,none⟩ (.pointer (some ⟨wc.heap.size,0,none⟩)))
    rw [qq] at h
    rw [HZ.out]
    exact h
 obtain ⟨pb,yP,tJ,yR,zP⟩:=hcut
 have oA:=ah zP
 have tZ:=ah tJ
 have rQ:=ah yR
 have wA:=ah (jE.out.stay yR)
 have tT:=ah yP
 have nB:=ah (fun e W=>kh e W)
 have HR:=ah (show ∀(R:Rs) A n c W W7,Chg [] W2 W→Chg [b4] W W7→R = (if r0 = 0 then aq 7 else if r0 % 2 = 0 then aq 190 else ⟨0,0,(B'.drop an).take sn⟩)→RB W7 (.slice A n c) R.l→(∀k∈own (.slice A n c),O k∨w.heap.size≤k)→AnsR w W7 m O X ((cx p x).1,none) (.returned (.tuple #[.agg (rsc R (.slice A n c)),.nilFunc]))∧Chg [] w W7 from fun R A n c W W7 h1 h2 h3 h4 h5=>by
  obtain rfl:R = (cx p x).1:=h3.trans Bv.out.symm
  exact ⟨⟨A,n,c,.nilFunc,rfl,h4,h5,rfl⟩,(jU.out.stay h1).trans h2 (fun y hy=>.inr (by obtain rfl:=aa hy;have:=HE.out;omega))⟩)
 obtain ⟨c0,-,-,-,-,-,c6,-,-,-,-,-,l3,-⟩:=KB.cells (jY.out wc wA.out)
 rw [HK.out] at c0
 have kD:=ah (XB.stay jW.out wA.out)
 clear yP tJ yR zP nC rA AP jE Cr Cs H6
 rcases (by have:=AN.out;omega:r0 = 0∨r0 = 1∨r0 = 2∨r0 = 3) with rfl | rfl | rfl | rfl
 ·go_wp2_with fail
  refine (nB.out _ _).mono ?_
  rintro e W6 ⟨rfl,iZ⟩
  have pH:=ah (XB.stay kD.out iZ)
  have kR:=ah (wA.out.stay iZ)
  clear iZ
  go_wp2_with (first|refine au (b:=b4) (y:=aq 7) (u:=zV) rfl _ _ rfl rfl rfl rfl pH.out ?_;intro W7 h7 jI)
  exact bodyPost_ret (v:=.tuple #[.agg (rsc (aq 7) zV),.nilFunc]) (bf (p:=4) (q:=5) rfl _ rfl h7) rfl (HR.out _ _ _ _ _ W7 kR.out jI rfl (RE.nil _ _ _ _ _) (fun _ h=>(bw h).elim))
 ·have hb:bits BinOp.and .u8 1 1 = 1:=by decide
  have zL:x.s = (sn:Int):=qK.symm
  rw [zL] at c6
  have q11:wc.cell? ⟨b11,0,none⟩ = some (.pointer (some ⟨pb,0,none⟩)):=by simpa using tT.out.cell 0
  have q7:wc.cell? ⟨b7,0,none⟩ = some (.int .i64 (an:Nat)):=by simpa using (Cd.out.chg rQ.out ab).cell 0
  have l11:=tT.out.lt
  have l7:=(Cd.out.chg rQ.out ab).lt
  have lp:=tZ.out.blk.lt
  have Cj:=ah (br_l (some ⟨pb,an,none⟩) sn (256 - an) ((B'.drop an).take sn))
  have HXd:=ah (show XB wc.drew b4 zRs zV from kD.out)
  have i0:(0:Int)≤(an:Int):=by omega
  have i1:(an:Int)≤(an:Int)+(sn:Int):=by omega
  have i2:(an:Int)+(sn:Int)≤256:=by have:=HB.out;omega
  have pE:=fun W=>uv (pb:=pb) HB.out HS1.out W
  clear zL qK
  go_upto_region 14 with (fail)
  refine ke [1,0,1,1,0,1,0,0,0,3,0] ?_
  go_wp2_with (first|refine qu _ rfl Cj.out ?_ ?_;(focus (simp [Act.eval];done))|refine ao fun K I=>?_;refine iy (y:=⟨0,0,((B'.drop an).take sn)⟩) (u:=.slice (some ⟨pb,an,none⟩) sn (256 - an)) _ _ rfl rfl rfl rfl HXd.out ?_;intro W7 h7 jI;refine I _ _ ?_;clear I K|refine av fun K I=>?_|refine ai fun K I=>?_;go_simp;refine I _ _ ?_;clear I K|refine ao fun K I=>?_;go_simp|refine aj ?_)
  exact bodyPost_ret (v:=.tuple #[.agg (rsc ⟨0,0,((B'.drop an).take sn)⟩ (.slice (some ⟨pb,an,none⟩) sn (256 - an))),.nilFunc]) (bf (p:=4) (q:=5) rfl _ rfl h7) rfl (HR.out ⟨0,0,((B'.drop an).take sn)⟩ (some ⟨pb,an,none⟩) sn (256 - an) wc.drew W7 (wA.out.drew) jI rfl (by
  have Aj:=HB.out
  exact PgB.piece (⟨Blk.chg (show Blk wc.drew pb _ _ from tZ.out.blk) jI (by simp;exact Blk.ne_ tZ.out.blk kD.out (by decide)),tZ.out.len,tZ.out.b8⟩:PgB W7 pb B') Aj (by omega)) (fun k hk=>by rw [gh] at hk;obtain rfl:=aa hk;exact oA.out.imp (tB.out _) (fun h=>h.2)))
 ·have hb:bits BinOp.and .u8 2 1 = 0:=by decide
  go_wp2_with fail
  refine (nB.out _ _).mono ?_
  rintro e W6 ⟨rfl,iZ⟩
  have pH:=ah (XB.stay kD.out iZ)
  have kR:=ah (wA.out.stay iZ)
  clear iZ
  go_wp2_with (first|refine au (b:=b4) (y:=aq 190) (u:=zV) rfl _ _ rfl rfl rfl rfl pH.out ?_;intro W7 h7 jI)
  exact bodyPost_ret (v:=.tuple #[.agg (rsc (aq 190) zV),.nilFunc]) (bf (p:=4) (q:=5) rfl _ rfl h7) rfl (HR.out _ _ _ _ _ W7 kR.out jI rfl (RE.nil _ _ _ _ _) (fun _ h=>(bw h).elim))
 ·have hb:bits BinOp.and .u8 3 1 = 1:=by decide
  have zL:x.s = (sn:Int):=qK.symm
  rw [zL] at c6
  have q11:wc.cell? ⟨b11,0,none⟩ = some (.pointer (some ⟨pb,0,none⟩)):=by simpa using tT.out.cell 0
  have q7:wc.cell? ⟨b7,0,none⟩ = some (.int .i64 (an:Nat)):=by simpa using (Cd.out.chg rQ.out ab).cell 0
  have l11:=tT.out.lt
  have l7:=(Cd.out.chg rQ.out ab).lt
  have lp:=tZ.out.blk.lt
  have Cj:=ah (br_l (some ⟨pb,an,none⟩) sn (256 - an) ((B'.drop an).take sn))
  have HXd:=ah (show XB wc.drew b4 zRs zV from kD.out)
  have i0:(0:Int)≤(an:Int):=by omega
  have i1:(an:Int)≤(an:Int)+(sn:Int):=by omega
  have i2:(an:Int)+(sn:Int)≤256:=by have:=HB.out;omega
  have pE:=fun W=>uv (pb:=pb) HB.out HS1.out W
  clear zL qK
  go_upto_region 14 with (fail)
  refine ke [1,0,1,1,0,1,0,0,0,3,0] ?_
  go_wp2_with (first|refine qu _ rfl Cj.out ?_ ?_;(focus (simp [Act.eval];done))|refine ao fun K I=>?_;refine iy (y:=⟨0,0,((B'.drop an).take sn)⟩) (u:=.slice (some ⟨pb,an,none⟩) sn (256 - an)) _ _ rfl rfl rfl rfl HXd.out ?_;intro W7 h7 jI;refine I _ _ ?_;clear I K|refine av fun K I=>?_|refine ai fun K I=>?_;go_simp;refine I _ _ ?_;clear I K|refine ao fun K I=>?_;go_simp|refine aj ?_)
  exact bodyPost_ret (v:=.tuple #[.agg (rsc ⟨0,0,((B'.drop an).take sn)⟩ (.slice (some ⟨pb,an,none⟩) sn (256 - an))),.nilFunc]) (bf (p:=4) (q:=5) rfl _ rfl h7) rfl (HR.out ⟨0,0,((B'.drop an).take sn)⟩ (some ⟨pb,an,none⟩) sn (256 - an) wc.drew W7 (wA.out.drew) jI rfl (by
  have Aj:=HB.out
  exact PgB.piece (⟨Blk.chg (show Blk wc.drew pb _ _ from tZ.out.blk) jI (by simp;exact Blk.ne_ tZ.out.blk kD.out (by decide)),tZ.out.len,tZ.out.b8⟩:PgB W7 pb B') Aj (by omega)) (fun k hk=>by rw [gh] at hk;obtain rfl:=aa hk;exact oA.out.imp (tB.out _) (fun h=>h.2)))
theorem nb {b l:List Nat} {a:Nat} (h:a+l.length≤b.length):(cj b a l).length = b.length:=by
 unfold cj
 simp only [List.length_append,List.length_take,List.length_drop]
 omega
theorem zq {b l:List Nat} {a:Nat} (hb:∀x∈b,x < 256) (hl:∀x∈l,x < 256):∀x∈cj b a l,x < 256:=by
 unfold cj
 intro x hx
 rcases List.mem_append.1 hx with hx | hx
 ·rcases List.mem_append.1 hx with hx | hx
  ·exact hb x (List.mem_of_mem_take hx)
  ·exact hl x hx
 ·exact hb x (List.mem_of_mem_drop hx)
theorem Ar.AMem.tight {w:World} {d:Nat} {l:List Ar.Rn} {F:List Nat} (h:Ar.AMem w d l F):∃F',Ar.AMem w d l F'∧(∀k∈F',k∈F)∧∀k∈F',(∃cs,Blk w k 142 cs)∨∃cs,Blk w k 144 cs:=by
 obtain ⟨v,hb,hs,hF,jF⟩:=h
 refine ⟨d :: own v,⟨v,hb,hs,fun k hk=>hk,fun k hk=>jF k (hF k hk)⟩,hF,fun k hk=>?_⟩
 rcases List.mem_cons.1 hk with rfl | hk
 ·exact .inl ⟨_,hb⟩
 ·obtain ⟨cur,hc⟩:=Sl.blk hs hk
  exact .inr ⟨_,hc⟩
section
variable {w W:World} {m:Nat} {M:Mo} {O:Nat→Prop} {bp bo be:Nat} {fp fo fe:Int→Option Value} {gb:Int→Nat} {GF:Int→Nat→Prop} {ov:Int→Value}
theorem dI (hI:MIn w m M bp bo be fp fo fe gb GF ov) (hO:∀k,FMo M m bp bo be GF ov k→O k) (hl:∀k,O k→k < w.heap.size) {pid:Int} {p:Pr} (hp:M.pr pid = some p)
  {d:Nat} {FA:List Nat} {qp qo:Nat} {gp' go':Int→Option Value} {gp:Int→Nat} (hP:PIn w (gb pid) p d FA qp qo gp' go' gp) (lH:∀k,FPr p (gb pid) FA qp qo gp k→GF pid k) (pA:∀k,GF pid k→k < w.heap.size)
  {pg:Int} {B2:List Nat} {pb:Nat} (tJ:(∃B,p.pg pg = some B∧pb = gp pg)∨(p.pg pg = none∧¬ O pb)) (CM:∃B,PgB w pb B)
  (hc:Chg [pb,qp] w W) (hB:PgB W pb B2) (h1:MapB W qp .i64 fun y=>if y = pg then some (.pointer (some ⟨pb,0,none⟩)) else gp' y) :
  CP (fun k=>O k∨k = pb) w W∧∃O',MMem W m { M with pr:=upd M.pr pid (some { p with pg:=upd p.pg pg (some B2) }) } O'∧∀k,O' k→O k∨k = pb:=by
 have BH:∀k,GF pid k→O k:=fun k hk=>hO k (.inr (.inr (.inr (.inr (.inl ⟨pid,p,hp,hk⟩)))))
 have hG:CP (fun k=>k = pb∨k = qp) w W:=CP.of hc (fun k hk=>.inl (by simpa using hk))
 have tQ:∀n B,p.pg n = some B→GF pid (gp n):=fun n B h=>lH _ (.inr (.inr (.inr (.inr ⟨n,B,h,rfl⟩))))
 have nqp:pb≠qp:=by
  rcases tJ with ⟨B,h,e⟩ | ⟨_,h⟩
  ·rw [e];exact Blk.ne_map (hP.pg pg B h).blk hP.mp
  ·exact fun e=>h (e ▸ BH _ (lH _ (.inr (.inr (.inl rfl)))))
 obtain ⟨B0,CM⟩:=CM
 have npb:gb pid≠pb:=(Blk.ne_ CM.blk hP.blk (by decide)).symm
 have nqo:pb≠qo:=Blk.ne_map CM.blk hP.mo
 obtain ⟨FB,FI,lO,wQ⟩:=hP.ar.tight
 have nFA:pb∉FB:=fun hk=>by
  rcases wQ pb hk with ⟨cs,h⟩ | ⟨cs,h⟩
  ·exact Blk.ne_ h CM.blk (by decide) rfl
  ·exact Blk.ne_ h CM.blk (by decide) rfl
 have Do:∀n B,p.pg n = some B→n≠pg→gp n≠pb:=fun n B h hn e=>by
  rcases tJ with ⟨B',h',e'⟩ | ⟨_,h'⟩
  ·exact hn (hP.inj n pg B B' h h' (e.trans e'))
  ·exact h' (e ▸ BH _ (tQ n B h))
 have lG:∀n B,upd p.pg pg (some B2) n = some B→n≠pg→p.pg n = some B:=fun n B h hn=>by rwa [db _ _ hn] at h
 have lY:=hc.size
 obtain ⟨r1,O',r2,r3⟩:=zg (G:=fun k=>k = pb∨k = qp) (F':=fun k=>GF pid k∨k = pb) hI hO hl hp hG
  (by
   rintro k (rfl | rfl)
   ·rcases tJ with ⟨B,h,e⟩ | ⟨_,h⟩
    ·exact .inl (e ▸ tQ pg B h)
    ·exact .inr h
   ·exact .inl (lH _ (.inr (.inr (.inl rfl)))))
  (p':={ p with pg:=upd p.pg pg (some B2) })
  ⟨d,FB,qp,qo,_,go',upd gp pg pb,⟨hP.blk.cp hG (by rintro (e | e);exact npb e;exact Blk.ne_map hP.blk hP.mp e),FI.cp hG (by
    rintro k hk (e | e)
    ·exact nFA (e ▸ hk)
    ·rcases wQ k hk with ⟨cs,h⟩ | ⟨cs,h⟩
     ·exact Blk.ne_map h hP.mp e
     ·exact Blk.ne_map h hP.mp e),hP.sp,h1,hP.mo.cp hG (by rintro (e | e);exact nqo e.symm;exact hP.ne e.symm),fun n=>by
    show (if n = pg then some (Value.pointer (some ⟨pb,0,none⟩)) else gp' n) = (upd p.pg pg (some B2) n).map _
    by_cases hn:n = pg
    ·rw [if_pos hn,hn,di,di];rfl
    ·rw [if_neg hn,db _ _ hn,db _ _ hn];exact hP.hp n,hP.ho,fun n B h=>by
    by_cases hn:n = pg
    ·subst hn
     have h2:upd p.pg n (some B2) n = some B:=h
     rw [di] at h2
     obtain rfl:=Option.some.inj h2
     rw [di];exact hB
    ·rw [db _ _ hn]
     have h2:=lG n B h hn
     exact (hP.pg n B h2).cp hG (by
      rintro (e | e)
      ·exact Do n B h2 hn e
      ·exact Blk.ne_map (hP.pg n B h2).blk hP.mp e),fun n n' B B' h h' e=>by
    by_cases hn:n = pg
    ·by_cases qT:n' = pg
     ·rw [hn,qT]
     ·rw [hn,di,db _ _ qT] at e
      exact absurd e.symm (Do n' B' (lG n' B' h' qT) qT)
    ·by_cases qT:n' = pg
     ·rw [qT,di,db _ _ hn] at e
      exact absurd e (Do n B (lG n B h hn) hn)
     ·rw [db _ _ hn,db _ _ qT] at e
      exact hP.inj n n' B B' (lG n B h hn) (lG n' B' h' qT) e,hP.ne,hP.pk,hP.pm,hP.ow⟩,by
   rintro k (rfl | hk | rfl | rfl | ⟨n,B,h,rfl⟩)
   ·exact .inl (lH _ (.inl rfl))
   ·exact .inl (lH _ (.inr (.inl (lO k hk))))
   ·exact .inl (lH _ (.inr (.inr (.inl rfl))))
   ·exact .inl (lH _ (.inr (.inr (.inr (.inl rfl)))))
   ·by_cases hn:n = pg
    ·rw [hn,di];exact .inr rfl
    ·rw [db _ _ hn];exact .inl (tQ n B (lG n B h hn)),by
   rintro k (hk | rfl)
   ·have:=pA k hk;omega
   ·have:=CM.blk.lt;omega⟩
  (by
   rintro k (hk | rfl)
   ·exact .inl hk
   ·rcases tJ with ⟨B,h,e⟩ | ⟨_,h⟩
    ·exact .inl (e ▸ tQ pg B h)
    ·exact .inr h)
 refine ⟨?_,O',r2,fun k hk=>?_⟩
 ·obtain ⟨L,g1,g2⟩:=r1
  refine ⟨L,g1,fun k hk=>(g2 k hk).imp (fun h=>?_) id⟩
  rcases h with h | h | h
  ·exact .inl h
  ·exact .inr h
  ·exact .inl (h ▸ BH _ (lH _ (.inr (.inr (.inl rfl)))))
 ·rcases r3 k hk with h | h | h
  ·exact .inl h
  ·exact .inl (BH _ h)
  ·exact .inr h
theorem free_end (hI:MIn w m M bp bo be fp fo fe gb GF ov) (hO:∀k,FMo M m bp bo be GF ov k→O k) (hl:∀k,O k→k < w.heap.size) {z:Int} (hc:Chg [bo] w W)
  (ho:MapB W bo .u64 fun y=>if y = z then none else fo y) :
  CP O w W∧∃O',MMem W m { M with ob:=upd M.ob z none } O'∧∀k,O' k→O k∨w.heap.size≤k:=by
 have jO:∀h B,upd M.ob z none h = some B→M.ob h = some B:=fun h B e=>by
  by_cases e2:h = z
  ·rw [e2,di] at e;cases e
  ·rwa [db _ _ e2] at e
 refine aF hI hO hl hc (fun k hk=>.inl (aa hk)) (ov':=ov) ho (hI.me.chg hc (by simp;exact fun e=>hI.d3 e.symm)) (fun h=>?_) (fun h B e=>?_) (fun h h' B B' e e'=>hI.oa h h' B B' (jO h B e) (jO h' B' e')) hI.he (fun h B e k hk=>.inl ⟨h,B,jO h B e,hk⟩)
 ·by_cases e:h = z
  ·simp [upd,e]
  ·simp only [upd,if_neg e];exact hI.ho h
 ·have hb:=hI.ob h B (jO h B e)
  exact ⟨hb.1.chg hc (fun k hk h2=>by
   obtain rfl:=aa h2
   exact SB.ne_map hb.1 hI.mo hk),hb.2⟩
theorem poke_end (hI:MIn w m M bp bo be fp fo fe gb GF ov) (hO:∀k,FMo M m bp bo be GF ov k→O k) (hl:∀k,O k→k < w.heap.size) {z:Int} {B:List Nat} (hz:M.ob z = some B) {a:Nat} {l:List Nat} (ha:a+l.length≤B.length) (rM:∀x∈l,x < 256)
  (hc:Chg (own (ov z)) w W) (hS:SB W (ov z) (cj B a l)) :
  CP O w W∧∃O',MMem W m { M with ob:=upd M.ob z (some (cj B a l)) } O'∧∀k,O' k→O k∨w.heap.size≤k:=by
 have xD:=hI.ob z B hz
 have jO:∀h B',upd M.ob z (some (cj B a l)) h = some B'→∃B'',M.ob h = some B'':=fun h B' e=>by
  by_cases e2:h = z
  ·exact ⟨B,e2 ▸ hz⟩
  ·rw [db _ _ e2] at e;exact ⟨B',e⟩
 have nmo:bo∉own (ov z):=SB.ne_map xD.1 hI.mo
 have nme:be∉own (ov z):=SB.ne_map xD.1 hI.me
 refine aF hI hO hl hc (fun k hk=>.inr (.inr (.inl ⟨z,B,hz,hk⟩))) (ov':=ov) (hI.mo.chg hc nmo) (hI.me.chg hc nme) (fun h=>?_) (fun h B' e=>?_) (fun h h' B1 B2 e e'=>?_) hI.he fun h B' e k hk=>?_
 ·by_cases e:h = z
  ·subst e
   rw [di,hI.ho,hz];rfl
  ·rw [db _ _ e];exact hI.ho h
 ·by_cases e2:h = z
  ·subst e2
   rw [di] at e
   obtain rfl:=Option.some.inj e
   exact ⟨hS,zq xD.2.1 rM,by rw [nb ha];exact xD.2.2⟩
  ·rw [db _ _ e2] at e
   have hb:=hI.ob h B' e
   exact ⟨hb.1.chg hc (fun k hk pJ=>hI.oa h z B' B e hz e2 k hk pJ),hb.2⟩
 ·obtain ⟨B1',e1⟩:=jO h B1 e
  obtain ⟨B2',e2⟩:=jO h' B2 e'
  exact hI.oa h h' B1' B2' e1 e2
 ·obtain ⟨B'',e1⟩:=jO h B' e
  exact .inl ⟨h,B'',e1,hk⟩
end
end Go.Proofs.YtfoleblcaloeoaaGreatDoor
