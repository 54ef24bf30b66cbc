import Derived.Test.YtfoleblcaloeoaaGreatDoorZam
import Derived.Deep.OwnRows
import Derived.Laws.OwnMore
set_option maxHeartbeats 40000000
set_option maxRecDepth 20000
namespace Go.Proofs.YtfoleblcaloeoaaGreatDoor
open Go Go.RowKit
variable {f:Int→Option Value} {b:Nat} {k:IntKind} {t:TypeId} {Q:Exit→Act→World→Prop} {K:Act→World→Prop} {w:World} {a:Act} {o:Oper}
theorem pc {kt et:TypeId} {q:IntKind} (x y:Operand) (ho:o.op = .call { callee:=.builtin .delete,args:=#[x,y],argTypes:=#[t,kt] })
  (ht:Tryz.prog.underlying t = some (.map kt et)) (hk:Tryz.prog.underlying kt = some (.int q)) {key:Int} (hx:a.eval x = .map (some b)) (hy:a.eval y = .int k key) (h:MapB w b k f)
  (U:∀w',MapB w' b k (fun y=>if y = key then none else f y)→Chg [b] w w'→K (a.put o.dst (.tuple #[])) w'):o.wp Tryz.prog a w K Q:=by
 obtain ⟨w',h1,h2,h3⟩:=yc (ty:=o.type) ht hk h key;unfold Oper.wp execOp;simp only [ho,resolve,invoke,builtin,Sem.run_bind,Sem.run_pure,Result.andThen_ok,List.map_toArray,List.map_cons,List.map_nil,hx,hy,h1];exact U w' h2 h3
theorem nu {kt et:TypeId} {q:IntKind} (x y:Operand) (ho:o.op = .mapEntry t x y)
  (ht:Tryz.prog.underlying t = some (.map kt et)) (hk:Tryz.prog.underlying kt = some (.int q)) {key:Int} (hx:a.eval x = .map (some b)) (hy:a.eval y = .int k key) (h:MapB w b k f) {z:Value} (hz:∀W,(zeroValue et).run Tryz.prog W = .ok z W)
  (U:∀w' v s,MapS w' b k f key s→Chg [b] w w'→K (a.put o.dst (.tuple #[v,goInt (s:Nat)])) w'):o.wp Tryz.prog a w K Q:=by
 obtain ⟨w',v,s,h1,h2,h3⟩:=zg ht hk h key hz;unfold Oper.wp execOp;simp only [ho,hx,hy,Sem.run_bind,h1,Sem.run_pure,Result.andThen_ok];exact U w' v s h2 h3
theorem lw (x y z:Operand) (ho:o.op = .entryStore t x y z)
  {key:Int} {s:Nat} {val:Value} (hx:a.eval x = .map (some b)) (hy:a.eval y = goInt (s:Nat)) (hz:a.eval z = val) (h:MapS w b k f key s)
  (U:∀w',MapB w' b k (fun y=>if y = key then some val else f y)→Chg [b] w w'→K (a.put o.dst undef) w'):o.wp Tryz.prog a w K Q:=by
 obtain ⟨w',h1,h2,h3⟩:=tk (P:=Tryz.prog) (t:=t) h val;unfold Oper.wp execOp;simp only [ho,hx,hy,hz,Sem.run_bind,h1,Sem.run_pure,Result.andThen_ok];exact U w' h2 h3
variable {O:Nat→Prop}
theorem exit_do {m b1 b2:Nat} {M:Mo} {x:Cl} {v:Value} (h:MMem w m M O) (h1:Blk w b1 30 #[.pointer (some ⟨m,0,none⟩)]) (h2:KB w b2 x v) :
  Calls Tryz.prog 66 #[.pointer (some ⟨b1,0,none⟩),.pointer (some ⟨b2,0,none⟩)] w fun e W'=>e = .returned (.tuple #[])∧CP O w W'∧∃O',MMem W' m { M with pr:=upd M.pr x.p none } O'∧∀k,O' k→O k∨w.heap.size≤k:=by
 obtain ⟨bp,bo,be,fp,fo,fe,gb,GF,ov,hI,hO,hl⟩:=h;have nD:=bk (fun W=>@exit_end w W m M O bp bo be fp fo fe gb GF ov hI hO hl x.p);have q1:w.cell? ⟨b1,0,none⟩ = some (.pointer (some ⟨m,0,none⟩)):=by simpa using h1.cell 0
 obtain ⟨-,c1,-,-,-,-,-,-,-,-,-,-,cl,-⟩:=ay h2;obtain ⟨qp,-,-,qm,-⟩:=eq hI.blk;have l1:=h1.lt;have tY:=bk (show MapB w.drew bp .i64 fp from hI.mp);clear hI hO hl h1 h2;go_enter Tryz.func66,Tryz.ntmps66;refine rgn7 [1,0,0,1,0,1,3] ?_;go_wp2_with (first|refine dy fun K U=>?_;refine pc _ _ rfl Tryz.underlying58 Tryz.underlying3 rfl rfl tY.out ?_;intro W5 h5 kE;refine U _ _ ?_;clear U K|refine cdA fun K U=>?_|refine bn fun K U=>?_;go_simp|refine bq ?_);go_end0;exact ⟨rfl,nD.out W5 h5 ((av [bp] w).drew.and_ kE)⟩
theorem info5c:(Tryz.prog.info? 5).map (fun i=>(i.zero,i.size,i.bytes)) = some (some (.int .u8 0),1,1):=by kernel_rfl
theorem uw (w:World) (n:Nat) (hn:n≤1000):SB (w.alloc (.cells (madeCells #[.int .u8 0] n) 5)) (.slice (some ⟨w.heap.size,0,none⟩) n n) (List.replicate n 0):=by
 have h:=Sl.made w 5 1 (madeCells #[.int .u8 0] n) n n (Nat.le_refl _) (by unfold maxLen;omega) (by rw [size_madeCells];omega);unfold SB SE;rw [List.length_replicate];have e:(madeCells #[.int .u8 0] n).toList.take (n * 1) = fc ucl (List.replicate n 0):=by
  rw [toList_madeCells_one,Nat.mul_one,List.take_of_length_le (by simp)];unfold fc
  induction n with
  | zero=>rfl
  | succ n ih=>rw [List.replicate_succ,List.replicate_succ,List.flatMap_cons,← ih (by omega) (Sl.made w 5 1 (madeCells #[.int .u8 0] n) n n (Nat.le_refl _) (by unfold maxLen;omega) (by rw [size_madeCells];omega))];rfl
 rw [← e];exact h
theorem cH:∀w,(zeroValue 38).run Tryz.prog w = .ok (.slice none 0 0) w:=by
 have h:(Tryz.prog.info? 38).map (fun i=>(i.zero,i.size)) = some (some (.slice none 0 0),1):=by kernel_rfl
 exact (zero_of_info h).1
theorem zero4:∀w,(zeroValue 4).run Tryz.prog w = .ok (.bool false) w:=by
 have h:(Tryz.prog.info? 4).map (fun i=>(i.zero,i.size)) = some (some (.bool false),1):=by kernel_rfl
 exact (zero_of_info h).1
theorem eY {w W:World} {m:Nat} {M:Mo} {O:Nat→Prop} {bp bo be:Nat} {fp fo fe:Int→Option Value} {gb:Int→Nat} {GF:Int→Nat→Prop} {ov:Int→Value}
  (hI:MIn w m M bp bo be fp fo fe gb GF ov) (hO:∀k,FMo M m bp bo be GF ov k→O k) (hl:∀k,O k→k < w.heap.size) (hc:Chg [bo,be] w W) {z:Int} {S:Value} {n:Nat}
  (ho:MapB W bo .u64 fun y=>if y = z then some S else fo y) (he:MapB W be .u64 fun y=>if y = z then some (.bool true) else fe y) (hS:SB W S (List.replicate n 0)) (hn:∀k∈own S,w.heap.size≤k) (h8:n≤128) :
  CP O w W∧∃O',MMem W m { M with ob:=upd M.ob z (some (List.replicate n 0)),ev:=upd M.ev z true } O'∧∀k,O' k→O k∨w.heap.size≤k:=by
 have kT:∀h B,upd M.ob z (some (List.replicate n 0)) h = some B→h≠z→M.ob h = some B:=fun h B e e2=>by rwa [fu _ _ e2] at e
 have nK:∀h B,M.ob h = some B→∀k∈own (ov h),k < w.heap.size:=fun h B e k hk=>hl k (hO k (.inr (.inr (.inr (.inr (.inr ⟨h,B,e,hk⟩))))));refine bI hI hO hl hc (fun k hk=>by (simp at hk;rcases hk with rfl | rfl <;> simp)) (ov':=upd ov z S) ho he (fun h=>?_) (fun h B e=>?_) (fun h h' B B' e e' hh k hk mG=>?_) (fun h=>?_) fun h B e k hk=>?_
 ·by_cases e:h = z
  ·simp [upd,e]
  ·simp only [upd,ag e];exact hI.ho h
 ·by_cases e2:h = z
  ·subst e2;rw [gn] at e ⊢;obtain rfl:=aq e;exact ⟨hS,(fun x hx=>by rw [List.mem_replicate] at hx;omega),(by simp;omega)⟩
  ·rw [fu _ _ e2];have hb:=hI.ob h B (kT h B e e2);exact ⟨hb.1.chg hc (fun k hk h2=>by
    simp at h2
    rcases h2 with rfl | rfl
    ·exact SB.ne_map hb.1 hI.mo hk
    ·exact SB.ne_map hb.1 hI.me hk),hb.2⟩
 ·by_cases e1:h = z
  ·subst e1;have e2:h'≠h:=fun e=>hh e.symm;rw [gn] at hk;rw [fu _ _ e2] at mG;have:=nK h' B' (kT h' B' e' e2) k mG;have:=hn k hk;omega
  ·rw [fu _ _ e1] at hk;by_cases e2:h' = z
   ·subst e2;rw [gn] at mG;have:=nK h B (kT h B e e1) k hk;have:=hn k mG;omega
   ·rw [fu _ _ e2] at mG;exact hI.oa h h' B B' (kT h B e e1) (kT h' B' e' e2) hh k hk mG
 ·by_cases e:h = z
  ·simp [upd,e]
  ·simp only [upd,ag e];exact hI.he h
 ·by_cases e1:h = z
  ·subst e1;rw [gn] at hk;exact .inr (hn k hk)
  ·rw [fu _ _ e1] at hk;exact .inl ⟨h,B,kT h B e e1,hk⟩
theorem jK {m b0 b1 b2:Nat} {M:Mo} {x:Cl} {v u:Value} {r:Rs} (h:MMem w m M O) (h0:KB w b0 x v) (h1:Blk w b1 30 #[.pointer (some ⟨m,0,none⟩)]) (h2:XB w b2 r u) {n:Nat} (hn:x.s = (n:Nat)) (yM:n≤128) :
  Calls Tryz.prog 64 #[.pointer (some ⟨b0,0,none⟩),.pointer (some ⟨b1,0,none⟩),.pointer (some ⟨b2,0,none⟩)] w fun e W'=>e = .returned (.tuple #[])∧CP O w W'∧∃O',MMem W' m { M with ob:=upd M.ob r.v (some (List.replicate n 0)),ev:=upd M.ev r.v true } O'∧∀k,O' k→O k∨w.heap.size≤k:=by
 obtain ⟨bp,bo,be,fp,fo,fe,gb,GF,ov,hI,hO,hl⟩:=h;have nD:=bk (fun W hc S=>@eY w W m M O bp bo be fp fo fe gb GF ov hI hO hl hc r.v S n);have HI:=bk hI;have HK:=bk h0;have H1:=bk h1;have HX:=bk h2;have HN:=bk (show ¬ b1∈[bo,be]∧¬ m∈[bo,be]∧¬ b2∈[bo,be]∧¬ b0∈[bo,be] from ⟨by simp;exact ⟨h1.ne_map hI.mo,h1.ne_map hI.me⟩,by simp;exact ⟨hI.blk.ne_map hI.mo,hI.blk.ne_map hI.me⟩,by simp;exact ⟨bj h2 hI.mo,bj h2 hI.me⟩,by simp;exact ⟨bj h0 hI.mo,bj h0 hI.me⟩⟩);have kR:=bk (ai hI.mo.lt hI.me.lt);have CL:=bk hI.d3;have sW:∀W:World,(Instr.makeSlice 38 (.int .i64 (n:Int)) (.int .i64 (n:Int))).run Tryz.prog W = .ok (.slice (some ⟨W.heap.size,0,none⟩) n n) (W.alloc (.cells (madeCells #[.int .u8 0] n) 5)):=fun W =>
  run_make_row' 38 5 (.int .u8 0) 1 Tryz.underlying38 info5c rfl .i64 .i64 n (by omega) (by omega) W
 have CR:=bk yM;have HNS:=bk hn;clear hI hO hl h0 h1 h2 yM hn;go_enter Tryz.func64,Tryz.ntmps64;refine mc [5,0,0,5,0,5,5,0,0,5,0,5,0,5,6,6,0,6,6,0,6] [none,none,none,none,none,none,none,none,none,none,none,none,none,none,none,none,none,none,none,none,none] [[0,1,2,3,4,5,6,7,8,9,10,11,12,13,14,15,16,17,18,19,20],[0,1,2,3,4,5,6,7,8,9,10,11,12,13,15,14,16,17,18,19,20]] (fun W=>Chg [bo,be] w W) (by kernel_rfl) (by kernel_rfl) (by kernel_rfl) (by kernel_rfl) (fun L9 qO=>?_);have hS:Chg [bo,be] w w.drew:=(av [bo,be] w).drew;have rX:Chg [] w w.drew:=(av [] w).drew;generalize w.drew = W0 at hS rX ⊢;simp only [List.mem_cons,List.mem_nil_iff,or_false] at qO;rcases qO with rfl | rfl
 ·simp only [fv,List.filterMap_cons,List.filterMap_nil,List.getElem?_cons_succ,List.getElem?_cons_zero];go_wp2_with (first|refine ca 30 _ rfl rfl (fun w' kK=>jc Tryz.underlying30 (by simpa using (H1.out.cp (CP.of kK (fun k hk=>.inl hk)) HN.out.1).cell 0)) hS ?_|refine ca 59 _ rfl rfl (fun w' kK=>gy Tryz.underlying59 (eq (HI.out.blk.cp (CP.of kK (fun k hk=>.inl hk)) HN.out.2.1)).2.1) hS ?_|refine ca 60 _ rfl rfl (fun w' kK=>gy Tryz.underlying60 (eq (HI.out.blk.cp (CP.of kK (fun k hk=>.inl hk)) HN.out.2.1)).2.2.1) hS ?_|refine ca 37 _ rfl rfl (fun w' kK=>dg Tryz.underlying37 (XB.cells (Blk.cp HX.out (CP.of kK (fun k hk=>.inl hk)) HN.out.2.2.1)).2.1) hS ?_|refine ca 3 _ rfl rfl (fun w' kK=>dg Tryz.underlying3 (ay (Blk.cp HK.out (CP.of kK (fun k hk=>.inl hk)) HN.out.2.2.2)).2.2.2.2.2.2.1) hS ?_|refine cdA fun K U=>?_|refine bn fun K U=>?_;go_simp|refine bq ?_);rw [HNS.out];(refine cd hS fun K U=>?_);go_simp;obtain ⟨W1,kP⟩:∃W,W = W0.alloc (.cells (madeCells #[.int .u8 0] n) 5):=⟨_,rfl⟩;have kO:Chg [] W0 W1:=by rw [kP];exact (av [] _).alloc _
  have hM:SB W1 (.slice (some ⟨W0.heap.size,0,none⟩) n n) (List.replicate n 0):=by rw [kP];exact uw _ n (by have:=CR.out;omega)
  have gM:w.heap.size≤W0.heap.size:=hS.size;have mE:Chg [bo,be] w W1:=hS.stay kO
  try rw [← kP]
  clear kP;refine U _ _ mE ?_;clear U K;(refine cd mE fun K U=>?_);refine nu _ _ rfl Tryz.underlying59 Tryz.underlying37 rfl rfl (MapB.stay HI.out.mo (rX.stay kO)) cH ?_;intro W2 v1 s1 GY kI;have lY:Chg [bo,be] w W2:=mE.trans kI (fun y hy=>.inl (by obtain rfl:=aa hy;simp));refine U _ _ lY ?_;clear U K;replace hM:=hM.chg kI (fun k hk h=>by simp [own,Value.ownBlock] at hk;simp at h;have:=kR.out;omega);go_wp2_with (first|refine cdA fun K U=>?_|refine bn fun K U=>?_;go_simp|refine bq ?_);(refine cd lY fun K U=>?_);refine lw _ _ _ rfl rfl rfl rfl GY ?_;intro W3 Ax kM;have nI:Chg [bo,be] w W3:=lY.trans kM (fun y hy=>.inl (by obtain rfl:=aa hy;simp));refine U _ _ nI ?_;clear U K;replace hM:=hM.chg kM (fun k hk h=>by simp [own,Value.ownBlock] at hk;simp at h;have:=kR.out;omega);have hme:MapB W3 be .u64 fe:=(((MapB.stay HI.out.me (rX.stay kO)).chg kI (by simp;exact fun e=>CL.out e.symm)).chg kM (by simp;exact fun e=>CL.out e.symm));(refine cd nI fun K U=>?_);refine nu _ _ rfl Tryz.underlying60 Tryz.underlying37 rfl rfl hme zero4 ?_;intro W4 v2 s2 zD kZ;have nM:Chg [bo,be] w W4:=nI.trans kZ (fun y hy=>.inl (by obtain rfl:=aa hy;simp));refine U _ _ nM ?_;clear U K;replace hM:=hM.chg kZ (fun k hk h=>by simp [own,Value.ownBlock] at hk;simp at h;have:=kR.out;omega);replace Ax:=Ax.chg kZ (by simp;exact CL.out);go_wp2_with (first|refine cdA fun K U=>?_|refine bn fun K U=>?_;go_simp|refine bq ?_);(refine cd nM fun K U=>?_);refine lw _ _ _ rfl rfl rfl rfl zD ?_;intro W5 Cd kE;have pB:Chg [bo,be] w W5:=nM.trans kE (fun y hy=>.inl (by obtain rfl:=aa hy;simp));refine U _ _ pB ?_;clear U K;replace hM:=hM.chg kE (fun k hk h=>by simp [own,Value.ownBlock] at hk;simp at h;have:=kR.out;omega);replace Ax:=Ax.chg kE (by simp;exact CL.out);go_wp2_with (first|refine cdA fun K U=>?_|refine bn fun K U=>?_;go_simp|refine bq ?_);go_end0;exact ⟨rfl,nD.out W5 pB (.slice (some ⟨W0.heap.size,0,none⟩) n n) Ax Cd hM (fun k hk=>by simp [own,Value.ownBlock] at hk;omega) CR.out⟩
 ·simp only [fv,List.filterMap_cons,List.filterMap_nil,List.getElem?_cons_succ,List.getElem?_cons_zero];go_wp2_with (first|refine ca 30 _ rfl rfl (fun w' kK=>jc Tryz.underlying30 (by simpa using (H1.out.cp (CP.of kK (fun k hk=>.inl hk)) HN.out.1).cell 0)) hS ?_|refine ca 59 _ rfl rfl (fun w' kK=>gy Tryz.underlying59 (eq (HI.out.blk.cp (CP.of kK (fun k hk=>.inl hk)) HN.out.2.1)).2.1) hS ?_|refine ca 60 _ rfl rfl (fun w' kK=>gy Tryz.underlying60 (eq (HI.out.blk.cp (CP.of kK (fun k hk=>.inl hk)) HN.out.2.1)).2.2.1) hS ?_|refine ca 37 _ rfl rfl (fun w' kK=>dg Tryz.underlying37 (XB.cells (Blk.cp HX.out (CP.of kK (fun k hk=>.inl hk)) HN.out.2.2.1)).2.1) hS ?_|refine ca 3 _ rfl rfl (fun w' kK=>dg Tryz.underlying3 (ay (Blk.cp HK.out (CP.of kK (fun k hk=>.inl hk)) HN.out.2.2.2)).2.2.2.2.2.2.1) hS ?_|refine cdA fun K U=>?_|refine bn fun K U=>?_;go_simp|refine bq ?_);rw [HNS.out];(refine cd hS fun K U=>?_);refine nu _ _ rfl Tryz.underlying59 Tryz.underlying37 rfl rfl (MapB.stay HI.out.mo rX) cH ?_;intro W1 v1 s1 GY kO;have mE:Chg [bo,be] w W1:=hS.trans kO (fun y hy=>.inl (by obtain rfl:=aa hy;simp));refine U _ _ mE ?_;clear U K;(refine cd mE fun K U=>?_);go_simp;obtain ⟨W2,kJ⟩:∃W,W = W1.alloc (.cells (madeCells #[.int .u8 0] n) 5):=⟨_,rfl⟩;have kI:Chg [] W1 W2:=by rw [kJ];exact (av [] _).alloc _
  have hM:SB W2 (.slice (some ⟨W1.heap.size,0,none⟩) n n) (List.replicate n 0):=by rw [kJ];exact uw _ n (by have:=CR.out;omega)
  have gM:w.heap.size≤W1.heap.size:=mE.size;have lY:Chg [bo,be] w W2:=mE.stay kI
  try rw [← kJ]
  clear kJ;refine U _ _ lY ?_;clear U K;have GY:=GY.chg kI ab;go_wp2_with (first|refine cdA fun K U=>?_|refine bn fun K U=>?_;go_simp|refine bq ?_);(refine cd lY fun K U=>?_);refine lw _ _ _ rfl rfl rfl rfl GY ?_;intro W3 Ax kM;have nI:Chg [bo,be] w W3:=lY.trans kM (fun y hy=>.inl (by obtain rfl:=aa hy;simp));refine U _ _ nI ?_;clear U K;replace hM:=hM.chg kM (fun k hk h=>by simp [own,Value.ownBlock] at hk;simp at h;have:=kR.out;omega);have hme:MapB W3 be .u64 fe:=(((MapB.stay HI.out.me rX).chg kO (by simp;exact fun e=>CL.out e.symm)).stay kI).chg kM (by simp;exact fun e=>CL.out e.symm);(refine cd nI fun K U=>?_);refine nu _ _ rfl Tryz.underlying60 Tryz.underlying37 rfl rfl hme zero4 ?_;intro W4 v2 s2 zD kZ;have nM:Chg [bo,be] w W4:=nI.trans kZ (fun y hy=>.inl (by obtain rfl:=aa hy;simp));refine U _ _ nM ?_;clear U K;replace hM:=hM.chg kZ (fun k hk h=>by simp [own,Value.ownBlock] at hk;simp at h;have:=kR.out;omega);replace Ax:=Ax.chg kZ (by simp;exact CL.out);go_wp2_with (first|refine cdA fun K U=>?_|refine bn fun K U=>?_;go_simp|refine bq ?_);(refine cd nM fun K U=>?_);refine lw _ _ _ rfl rfl rfl rfl zD ?_;intro W5 Cd kE;have pB:Chg [bo,be] w W5:=nM.trans kE (fun y hy=>.inl (by obtain rfl:=aa hy;simp));refine U _ _ pB ?_;clear U K;replace hM:=hM.chg kE (fun k hk h=>by simp [own,Value.ownBlock] at hk;simp at h;have:=kR.out;omega);replace Ax:=Ax.chg kE (by simp;exact CL.out);go_wp2_with (first|refine cdA fun K U=>?_|refine bn fun K U=>?_;go_simp|refine bq ?_);go_end0;exact ⟨rfl,nD.out W5 pB (.slice (some ⟨W1.heap.size,0,none⟩) n n) Ax Cd hM (fun k hk=>by simp [own,Value.ownBlock] at hk;omega) CR.out⟩
