/- Texts merged for the claim. -/
import Derived.Test.YtfoleblcaloeoaaGreatDoorZar
import Derived.Deep.OwnRows
import Derived.Laws.OwnMore
set_option maxHeartbeats 40000000
set_option maxRecDepth 20000
namespace Go.Proofs.YtfoleblcaloeoaaGreatDoor
open Go Go.RowKit
theorem nw {o:Oper} {a:Act} {w:World} {K:Act→World→Prop} {Q:Exit→Act→World→Prop} {t kt et:TypeId} {q k:IntKind} {b:Nat} {f:Int→Option Value} (x y:Operand) (ho:o.op = .call { callee:=.builtin .delete,args:=#[x,y],argTypes:=#[t,kt] })
  (ht:Tryz.prog.underlying t = some (.map kt et)) (hk:Tryz.prog.underlying kt = some (.int q)) {key:Int} (hx:a.eval x = .map (some b)) (hy:a.eval y = .int k key) (h:MapB w b k f)
  (I:∀w',MapB w' b k (fun y=>if y = key then none else f y)→Chg [b] w w'→K (a.put o.dst (.tuple #[])) w'):o.wp Tryz.prog a w K Q:=by
 obtain ⟨w',h1,h2,h3⟩:=wv (ty:=o.type) ht hk h key
 unfold Oper.wp execOp
 simp only [ho,resolve,invoke,builtin,Sem.run_bind,Sem.run_pure,Result.andThen_ok,List.map_toArray,List.map_cons,List.map_nil,hx,hy,h1]
 exact I w' h2 h3
theorem mu {o:Oper} {a:Act} {w:World} {K:Act→World→Prop} {Q:Exit→Act→World→Prop} {t kt et:TypeId} {q k:IntKind} {b:Nat} {f:Int→Option Value} (x y:Operand) (ho:o.op = .mapEntry t x y)
  (ht:Tryz.prog.underlying t = some (.map kt et)) (hk:Tryz.prog.underlying kt = some (.int q)) {key:Int} (hx:a.eval x = .map (some b)) (hy:a.eval y = .int k key) (h:MapB w b k f) {z:Value} (hz:∀W,(zeroValue et).run Tryz.prog W = .ok z W)
  (I:∀w' v s,MapS w' b k f key s→Chg [b] w w'→K (a.put o.dst (.tuple #[v,goInt (s:Nat)])) w'):o.wp Tryz.prog a w K Q:=by
 obtain ⟨w',v,s,h1,h2,h3⟩:=yb ht hk h key hz
 unfold Oper.wp execOp
 simp only [ho,hx,hy,Sem.run_bind,h1,Sem.run_pure,Result.andThen_ok]
 exact I w' v s h2 h3
theorem ko {o:Oper} {a:Act} {w:World} {K:Act→World→Prop} {Q:Exit→Act→World→Prop} {t:TypeId} {k:IntKind} {b:Nat} {f:Int→Option Value} (x y z:Operand) (ho:o.op = .entryStore t x y z)
  {key:Int} {s:Nat} {val:Value} (hx:a.eval x = .map (some b)) (hy:a.eval y = goInt (s:Nat)) (hz:a.eval z = val) (h:MapS w b k f key s)
  (I:∀w',MapB w' b k (fun y=>if y = key then some val else f y)→Chg [b] w w'→K (a.put o.dst undef) w'):o.wp Tryz.prog a w K Q:=by
 obtain ⟨w',h1,h2,h3⟩:=sr (P:=Tryz.prog) (t:=t) h val
 unfold Oper.wp execOp
 simp only [ho,hx,hy,hz,Sem.run_bind,h1,Sem.run_pure,Result.andThen_ok]
 exact I w' h2 h3
theorem exit_do {w:World} {m b1 b2:Nat} {M:Mo} {O:Nat→Prop} {x:Cl} {v:Value} (h:MMem w m M O) (h1:Blk w b1 30 #[.pointer (some ⟨m,0,none⟩)]) (h2:KB w b2 x v) :
  Calls Tryz.prog 66 #[.pointer (some ⟨b1,0,none⟩),.pointer (some ⟨b2,0,none⟩)] w fun e W'=>e = .returned (.tuple #[])∧CP O w W'∧∃O',MMem W' m { M with pr:=upd M.pr x.p none } O'∧∀k,O' k→O k∨w.heap.size≤k:=by
 obtain ⟨bp,bo,be,fp,fo,fe,gb,GF,ov,hI,hO,hl⟩:=h
 have lT:=ah (fun W=>@exit_end w W m M O bp bo be fp fo fe gb GF ov hI hO hl x.p)
 have q1:w.cell? ⟨b1,0,none⟩ = some (.pointer (some ⟨m,0,none⟩)):=by simpa using h1.cell 0
 obtain ⟨-,c1,-,-,-,-,-,-,-,-,-,-,cl,-⟩:=KB.cells h2
 obtain ⟨qp,-,-,qm,-⟩:=cc hI.blk
 have l1:=h1.lt
 have sE:=ah (show MapB w.drew bp .i64 fp from hI.mp)
 clear hI hO hl h1 h2
 go_enter Tryz.func66,Tryz.ntmps66
 refine rgn7 [1,0,0,1,0,1,3] ?_
 go_wp2_with (first|refine ao fun K I=>?_;refine nw _ _ rfl Tryz.underlying58 Tryz.underlying3 rfl rfl sE.out ?_;intro W5 h5 U;refine I _ _ ?_;clear I K|refine av fun K I=>?_|refine ai fun K I=>?_;go_simp;refine I _ _ ?_;clear I K|refine ao fun K I=>?_;go_simp|refine aj ?_)
 go_end0
 exact ⟨rfl,lT.out W5 h5 ((Chg.refl [bp] w).drew.and_ U)⟩
theorem info5c:(Tryz.prog.info? 5).map (fun i=>(i.zero,i.size,i.bytes)) = some (some (.int .u8 0),1,1):=by kernel_rfl
theorem ub (w:World) (n:Nat) (hn:n≤1000):SB (w.alloc (.cells (madeCells #[.int .u8 0] n) 5)) (.slice (some ⟨w.heap.size,0,none⟩) n n) (List.replicate n 0):=by
 have h:=Sl.made w 5 1 (madeCells #[.int .u8 0] n) n n (Nat.le_refl _) (by unfold maxLen;omega) (by rw [size_madeCells];omega)
 unfold SB SE
 rw [List.length_replicate]
 have e:(madeCells #[.int .u8 0] n).toList.take (n * 1) = fc ucl (List.replicate n 0):=by
  rw [toList_madeCells_one,Nat.mul_one,List.take_of_length_le (by simp)]
  unfold fc
  induction n with
  | zero=>rfl
  | succ n ih=>rw [List.replicate_succ,List.replicate_succ,List.flatMap_cons,← ih (by omega) (Sl.made w 5 1 (madeCells #[.int .u8 0] n) n n (Nat.le_refl _) (by unfold maxLen;omega) (by rw [size_madeCells];omega))];rfl
 rw [← e]
 exact h
theorem fD:∀w,(zeroValue 38).run Tryz.prog w = .ok (.slice none 0 0) w:=by
 have h:(Tryz.prog.info? 38).map (fun i=>(i.zero,i.size)) = some (some (.slice none 0 0),1):=by kernel_rfl
 exact (zero_of_info h).1
theorem zero4:∀w,(zeroValue 4).run Tryz.prog w = .ok (.bool false) w:=by
 have h:(Tryz.prog.info? 4).map (fun i=>(i.zero,i.size)) = some (some (.bool false),1):=by kernel_rfl
 exact (zero_of_info h).1
theorem dU {w W:World} {m:Nat} {M:Mo} {O:Nat→Prop} {bp bo be:Nat} {fp fo fe:Int→Option Value} {gb:Int→Nat} {GF:Int→Nat→Prop} {ov:Int→Value}
  (hI:MIn w m M bp bo be fp fo fe gb GF ov) (hO:∀k,FMo M m bp bo be GF ov k→O k) (hl:∀k,O k→k < w.heap.size) (hc:Chg [bo,be] w W) {z:Int} {S:Value} {n:Nat}
  (ho:MapB W bo .u64 fun y=>if y = z then some S else fo y) (he:MapB W be .u64 fun y=>if y = z then some (.bool true) else fe y) (hS:SB W S (List.replicate n 0)) (hn:∀k∈own S,w.heap.size≤k) (h8:n≤128) :
  CP O w W∧∃O',MMem W m { M with ob:=upd M.ob z (some (List.replicate n 0)),ev:=upd M.ev z true } O'∧∀k,O' k→O k∨w.heap.size≤k:=by
 have jO:∀h B,upd M.ob z (some (List.replicate n 0)) h = some B→h≠z→M.ob h = some B:=fun h B e e2=>by rwa [db _ _ e2] at e
 have lG:∀h B,M.ob h = some B→∀k∈own (ov h),k < w.heap.size:=fun h B e k hk=>hl k (hO k (.inr (.inr (.inr (.inr (.inr ⟨h,B,e,hk⟩))))))
 refine aF hI hO hl hc (fun k hk=>by (simp at hk;rcases hk with rfl | rfl <;> simp)) (ov':=upd ov z S) ho he (fun h=>?_) (fun h B e=>?_) (fun h h' B B' e e' hh k hk kL=>?_) (fun h=>?_) fun h B e k hk=>?_
 ·by_cases e:h = z
  ·simp [upd,e]
  ·simp only [upd,if_neg e];exact hI.ho h
 ·by_cases e2:h = z
  ·subst e2
   rw [di] at e ⊢
   obtain rfl:=Option.some.inj e
   exact ⟨hS,(fun x hx=>by rw [List.mem_replicate] at hx;omega),(by simp;omega)⟩
  ·rw [db _ _ e2]
   have hb:=hI.ob h B (jO h B e e2)
   exact ⟨hb.1.chg hc (fun k hk h2=>by
    simp at h2
    rcases h2 with rfl | rfl
    ·exact SB.ne_map hb.1 hI.mo hk
    ·exact SB.ne_map hb.1 hI.me hk),hb.2⟩
 ·by_cases e1:h = z
  ·subst e1
   have e2:h'≠h:=fun e=>hh e.symm
   rw [di] at hk
   rw [db _ _ e2] at kL
   have:=lG h' B' (jO h' B' e' e2) k kL
   have:=hn k hk
   omega
  ·rw [db _ _ e1] at hk
   by_cases e2:h' = z
   ·subst e2
    rw [di] at kL
    have:=lG h B (jO h B e e1) k hk
    have:=hn k kL
    omega
   ·rw [db _ _ e2] at kL
    exact hI.oa h h' B B' (jO h B e e1) (jO h' B' e' e2) hh k hk kL
 ·by_cases e:h = z
  ·simp [upd,e]
  ·simp only [upd,if_neg e];exact hI.he h
 ·by_cases e1:h = z
  ·subst e1
   rw [di] at hk
   exact .inr (hn k hk)
  ·rw [db _ _ e1] at hk
   exact .inl ⟨h,B,jO h B e e1,hk⟩
theorem iE {w:World} {m b0 b1 b2:Nat} {M:Mo} {O:Nat→Prop} {x:Cl} {v u:Value} {r:Rs} (h:MMem w m M O) (h0:KB w b0 x v) (h1:Blk w b1 30 #[.pointer (some ⟨m,0,none⟩)]) (h2:XB w b2 r u) {n:Nat} (hn:x.s = (n:Nat)) (wO:n≤128) :
  Calls Tryz.prog 64 #[.pointer (some ⟨b0,0,none⟩),.pointer (some ⟨b1,0,none⟩),.pointer (some ⟨b2,0,none⟩)] w fun e W'=>e = .returned (.tuple #[])∧CP O w W'∧∃O',MMem W' m { M with ob:=upd M.ob r.v (some (List.replicate n 0)),ev:=upd M.ev r.v true } O'∧∀k,O' k→O k∨w.heap.size≤k:=by
 obtain ⟨bp,bo,be,fp,fo,fe,gb,GF,ov,hI,hO,hl⟩:=h
 have lT:=ah (fun W hc S=>@dU w W m M O bp bo be fp fo fe gb GF ov hI hO hl hc r.v S n)
 have HI:=ah hI
 have HK:=ah h0
 have H1:=ah h1
 have HX:=ah h2
 have HN:=ah (show ¬ b1∈[bo,be]∧¬ m∈[bo,be]∧¬ b2∈[bo,be]∧¬ b0∈[bo,be] from ⟨by simp;exact ⟨h1.ne_map hI.mo,h1.ne_map hI.me⟩,by simp;exact ⟨hI.blk.ne_map hI.mo,hI.blk.ne_map hI.me⟩,by simp;exact ⟨Blk.ne_map h2 hI.mo,Blk.ne_map h2 hI.me⟩,by simp;exact ⟨Blk.ne_map h0 hI.mo,Blk.ne_map h0 hI.me⟩⟩)
 have jK:=ah (And.intro hI.mo.lt hI.me.lt)
 have Bw:=ah hI.d3
 have qI:∀W:World,(Instr.makeSlice 38 (.int .i64 (n:Int)) (.int .i64 (n:Int))).run Tryz.prog W = .ok (.slice (some ⟨W.heap.size,0,none⟩) n n) (W.alloc (.cells (madeCells #[.int .u8 0] n) 5)):=fun W =>
  run_make_row' 38 5 (.int .u8 0) 1 Tryz.underlying38 info5c rfl .i64 .i64 n (by omega) (by omega) W
 have BA:=ah wO
 have HNS:=ah hn
 clear hI hO hl h0 h1 h2 wO hn
 go_enter Tryz.func64,Tryz.ntmps64
 refine ku [5,0,0,5,0,5,5,0,0,5,0,5,0,5,6,6,0,6,6,0,6] [none,none,none,none,none,none,none,none,none,none,none,none,none,none,none,none,none,none,none,none,none] [[0,1,2,3,4,5,6,7,8,9,10,11,12,13,14,15,16,17,18,19,20],[0,1,2,3,4,5,6,7,8,9,10,11,12,13,15,14,16,17,18,19,20]] (fun W=>Chg [bo,be] w W) (by kernel_rfl) (by kernel_rfl) (by kernel_rfl) (by kernel_rfl) (fun L9 nQ=>?_)
 have hS:Chg [bo,be] w w.drew:=(Chg.refl [bo,be] w).drew
 have qU:Chg [] w w.drew:=(Chg.refl [] w).drew
 generalize w.drew = W0 at hS qU ⊢
 simp only [List.mem_cons,List.mem_nil_iff,or_false] at nQ
 rcases nQ with rfl | rfl
 ·simp only [dt,List.filterMap_cons,List.filterMap_nil,List.getElem?_cons_succ,List.getElem?_cons_zero]
  go_wp2_with (first|refine al 30 _ rfl rfl (fun w' J=>dk Tryz.underlying30 (by simpa using (H1.out.cp (CP.of J (fun k hk=>.inl hk)) HN.out.1).cell 0)) hS ?_|refine al 59 _ rfl rfl (fun w' J=>ca Tryz.underlying59 (cc (HI.out.blk.cp (CP.of J (fun k hk=>.inl hk)) HN.out.2.1)).2.1) hS ?_|refine al 60 _ rfl rfl (fun w' J=>ca Tryz.underlying60 (cc (HI.out.blk.cp (CP.of J (fun k hk=>.inl hk)) HN.out.2.1)).2.2.1) hS ?_|refine al 37 _ rfl rfl (fun w' J=>cr Tryz.underlying37 (XB.cells (Blk.cp HX.out (CP.of J (fun k hk=>.inl hk)) HN.out.2.2.1)).2.1) hS ?_|refine al 3 _ rfl rfl (fun w' J=>cr Tryz.underlying3 (KB.cells (Blk.cp HK.out (CP.of J (fun k hk=>.inl hk)) HN.out.2.2.2)).2.2.2.2.2.2.1) hS ?_|refine av fun K I=>?_|refine ai fun K I=>?_;go_simp;refine I _ _ ?_;clear I K|refine ao fun K I=>?_;go_simp|refine aj ?_)
  rw [HNS.out]
  (refine aw hS fun K I=>?_)
  go_simp
  obtain ⟨W1,jG⟩:∃W,W = W0.alloc (.cells (madeCells #[.int .u8 0] n) 5):=⟨_,rfl⟩
  have jH:Chg [] W0 W1:=by rw [jG];exact (Chg.refl [] _).alloc _
  have hM:SB W1 (.slice (some ⟨W0.heap.size,0,none⟩) n n) (List.replicate n 0):=by rw [jG];exact ub _ n (by have:=BA.out;omega)
  have gM:w.heap.size≤W0.heap.size:=hS.size
  have kT:Chg [bo,be] w W1:=hS.stay jH
  try rw [← jG]
  clear jG
  refine I _ _ kT ?_
  clear I K
  (refine aw kT fun K I=>?_)
  refine mu _ _ rfl Tryz.underlying59 Tryz.underlying37 rfl rfl (MapB.stay HI.out.mo (qU.stay jH)) fD ?_
  intro W2 v1 s1 FJ jA
  have kM:Chg [bo,be] w W2:=kT.trans jA (fun y hy=>.inl (by obtain rfl:=aa hy;simp))
  refine I _ _ kM ?_
  clear I K
  replace hM:=hM.chg jA (fun k hk h=>by simp [own,Value.ownBlock] at hk;simp at h;have:=jK.out;omega)
  go_wp2_with (first|refine av fun K I=>?_|refine ai fun K I=>?_;go_simp;refine I _ _ ?_;clear I K|refine ao fun K I=>?_;go_simp|refine aj ?_)
  (refine aw kM fun K I=>?_)
  refine ko _ _ _ rfl rfl rfl rfl FJ ?_
  intro W3 yH jD
  have lM:Chg [bo,be] w W3:=kM.trans jD (fun y hy=>.inl (by obtain rfl:=aa hy;simp))
  refine I _ _ lM ?_
  clear I K
  replace hM:=hM.chg jD (fun k hk h=>by simp [own,Value.ownBlock] at hk;simp at h;have:=jK.out;omega)
  have hme:MapB W3 be .u64 fe:=(((MapB.stay HI.out.me (qU.stay jH)).chg jA (by simp;exact fun e=>Bw.out e.symm)).chg jD (by simp;exact fun e=>Bw.out e.symm))
  (refine aw lM fun K I=>?_)
  refine mu _ _ rfl Tryz.underlying60 Tryz.underlying37 rfl rfl hme zero4 ?_
  intro W4 v2 s2 wY jT
  have mE:Chg [bo,be] w W4:=lM.trans jT (fun y hy=>.inl (by obtain rfl:=aa hy;simp))
  refine I _ _ mE ?_
  clear I K
  replace hM:=hM.chg jT (fun k hk h=>by simp [own,Value.ownBlock] at hk;simp at h;have:=jK.out;omega)
  replace yH:=yH.chg jT (by simp;exact Bw.out)
  go_wp2_with (first|refine av fun K I=>?_|refine ai fun K I=>?_;go_simp;refine I _ _ ?_;clear I K|refine ao fun K I=>?_;go_simp|refine aj ?_)
  (refine aw mE fun K I=>?_)
  refine ko _ _ _ rfl rfl rfl rfl wY ?_
  intro W5 AX U
  have nO:Chg [bo,be] w W5:=mE.trans U (fun y hy=>.inl (by obtain rfl:=aa hy;simp))
  refine I _ _ nO ?_
  clear I K
  replace hM:=hM.chg U (fun k hk h=>by simp [own,Value.ownBlock] at hk;simp at h;have:=jK.out;omega)
  replace yH:=yH.chg U (by simp;exact Bw.out)
  go_wp2_with (first|refine av fun K I=>?_|refine ai fun K I=>?_;go_simp;refine I _ _ ?_;clear I K|refine ao fun K I=>?_;go_simp|refine aj ?_)
  go_end0
  exact ⟨rfl,lT.out W5 nO (.slice (some ⟨W0.heap.size,0,none⟩) n n) yH AX hM (fun k hk=>by simp [own,Value.ownBlock] at hk;omega) BA.out⟩
 ·simp only [dt,List.filterMap_cons,List.filterMap_nil,List.getElem?_cons_succ,List.getElem?_cons_zero]
  go_wp2_with (first|refine al 30 _ rfl rfl (fun w' J=>dk Tryz.underlying30 (by simpa using (H1.out.cp (CP.of J (fun k hk=>.inl hk)) HN.out.1).cell 0)) hS ?_|refine al 59 _ rfl rfl (fun w' J=>ca Tryz.underlying59 (cc (HI.out.blk.cp (CP.of J (fun k hk=>.inl hk)) HN.out.2.1)).2.1) hS ?_|refine al 60 _ rfl rfl (fun w' J=>ca Tryz.underlying60 (cc (HI.out.blk.cp (CP.of J (fun k hk=>.inl hk)) HN.out.2.1)).2.2.1) hS ?_|refine al 37 _ rfl rfl (fun w' J=>cr Tryz.underlying37 (XB.cells (Blk.cp HX.out (CP.of J (fun k hk=>.inl hk)) HN.out.2.2.1)).2.1) hS ?_|refine al 3 _ rfl rfl (fun w' J=>cr Tryz.underlying3 (KB.cells (Blk.cp HK.out (CP.of J (fun k hk=>.inl hk)) HN.out.2.2.2)).2.2.2.2.2.2.1) hS ?_|refine av fun K I=>?_|refine ai fun K I=>?_;go_simp;refine I _ _ ?_;clear I K|refine ao fun K I=>?_;go_simp|refine aj ?_)
  rw [HNS.out]
  (refine aw hS fun K I=>?_)
  refine mu _ _ rfl Tryz.underlying59 Tryz.underlying37 rfl rfl (MapB.stay HI.out.mo qU) fD ?_
  intro W1 v1 s1 FJ jH
  have kT:Chg [bo,be] w W1:=hS.trans jH (fun y hy=>.inl (by obtain rfl:=aa hy;simp))
  refine I _ _ kT ?_
  clear I K
  (refine aw kT fun K I=>?_)
  go_simp
  obtain ⟨W2,jB⟩:∃W,W = W1.alloc (.cells (madeCells #[.int .u8 0] n) 5):=⟨_,rfl⟩
  have jA:Chg [] W1 W2:=by rw [jB];exact (Chg.refl [] _).alloc _
  have hM:SB W2 (.slice (some ⟨W1.heap.size,0,none⟩) n n) (List.replicate n 0):=by rw [jB];exact ub _ n (by have:=BA.out;omega)
  have gM:w.heap.size≤W1.heap.size:=kT.size
  have kM:Chg [bo,be] w W2:=kT.stay jA
  try rw [← jB]
  clear jB
  refine I _ _ kM ?_
  clear I K
  have FJ:=FJ.chg jA ab
  go_wp2_with (first|refine av fun K I=>?_|refine ai fun K I=>?_;go_simp;refine I _ _ ?_;clear I K|refine ao fun K I=>?_;go_simp|refine aj ?_)
  (refine aw kM fun K I=>?_)
  refine ko _ _ _ rfl rfl rfl rfl FJ ?_
  intro W3 yH jD
  have lM:Chg [bo,be] w W3:=kM.trans jD (fun y hy=>.inl (by obtain rfl:=aa hy;simp))
  refine I _ _ lM ?_
  clear I K
  replace hM:=hM.chg jD (fun k hk h=>by simp [own,Value.ownBlock] at hk;simp at h;have:=jK.out;omega)
  have hme:MapB W3 be .u64 fe:=(((MapB.stay HI.out.me qU).chg jH (by simp;exact fun e=>Bw.out e.symm)).stay jA).chg jD (by simp;exact fun e=>Bw.out e.symm)
  (refine aw lM fun K I=>?_)
  refine mu _ _ rfl Tryz.underlying60 Tryz.underlying37 rfl rfl hme zero4 ?_
  intro W4 v2 s2 wY jT
  have mE:Chg [bo,be] w W4:=lM.trans jT (fun y hy=>.inl (by obtain rfl:=aa hy;simp))
  refine I _ _ mE ?_
  clear I K
  replace hM:=hM.chg jT (fun k hk h=>by simp [own,Value.ownBlock] at hk;simp at h;have:=jK.out;omega)
  replace yH:=yH.chg jT (by simp;exact Bw.out)
  go_wp2_with (first|refine av fun K I=>?_|refine ai fun K I=>?_;go_simp;refine I _ _ ?_;clear I K|refine ao fun K I=>?_;go_simp|refine aj ?_)
  (refine aw mE fun K I=>?_)
  refine ko _ _ _ rfl rfl rfl rfl wY ?_
  intro W5 AX U
  have nO:Chg [bo,be] w W5:=mE.trans U (fun y hy=>.inl (by obtain rfl:=aa hy;simp))
  refine I _ _ nO ?_
  clear I K
  replace hM:=hM.chg U (fun k hk h=>by simp [own,Value.ownBlock] at hk;simp at h;have:=jK.out;omega)
  replace yH:=yH.chg U (by simp;exact Bw.out)
  go_wp2_with (first|refine av fun K I=>?_|refine ai fun K I=>?_;go_simp;refine I _ _ ?_;clear I K|refine ao fun K I=>?_;go_simp|refine aj ?_)
  go_end0
  exact ⟨rfl,lT.out W5 nO (.slice (some ⟨W1.heap.size,0,none⟩) n n) yH AX hM (fun k hk=>by simp [own,Value.ownBlock] at hk;omega) BA.out⟩
end Go.Proofs.YtfoleblcaloeoaaGreatDoor
