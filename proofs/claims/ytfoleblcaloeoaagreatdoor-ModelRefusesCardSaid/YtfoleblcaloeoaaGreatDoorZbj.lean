/- Texts merged for the claim. -/
import Derived.Test.YtfoleblcaloeoaaGreatDoorZbi
set_option maxHeartbeats 40000000
set_option maxRecDepth 20000
namespace Go.Proofs.YtfoleblcaloeoaaGreatDoor
open Go Go.RowKit
theorem SE.not_blk {α:Type} {enc:α→List Value} {size:Nat} {e:TypeId} {w:World} {v:Value} {l:List α} (h:SE enc size e w v l) {b:Nat} {t:TypeId} {cs:Array Value} (hb:Blk w b t cs) (ht:t≠e):b∉own v:=fun hk=>by
 obtain ⟨cur,hc⟩:=Sl.blk h hk
 exact Blk.ne_ hb hc ht rfl
theorem SE.not_map {α:Type} {enc:α→List Value} {size:Nat} {e:TypeId} {w:World} {v:Value} {l:List α} (h:SE enc size e w v l) {b:Nat} {k:IntKind} {f:Int→Option Value} (hb:MapB w b k f):b∉own v:=fun hk=>by
 obtain ⟨cur,hc⟩:=Sl.blk h hk
 exact Blk.ne_map hc hb rfl
theorem OIn.chg {F:List Nat} {w w':World} {vo:Value} {L:List Ob} {ob:Int→Option (List Nat)} (h:OIn w vo L ob) (hc:Chg F w w') (h1:∀k∈own vo,k∉F) (h2:∀o∈L,∀k∈own o.v,k∉F):OIn w' vo L ob :=
 ⟨SE.chg h.sl hc h1,fun o ho=>⟨SE.chg (h.bt o ho).1 hc (h2 o ho),(h.bt o ho).2⟩,h.nd,h.ap,h.lk⟩
theorem EIn.chg {F:List Nat} {w w':World} {ve:Value} {E:List Nat} {ev:Int→Bool} (h:EIn w ve E ev) (hc:Chg F w w') (h1:∀k∈own ve,k∉F):EIn w' ve E ev:=⟨SE.chg h.sl hc h1,h.e64,h.lk⟩
section
variable {w w':World} {m:Nat} {M:Mo} {sp:Nat→Option Nat} {vo ve:Value} {L:List Ob} {E:List Nat} {gb gm:Nat→Nat} {gs:Nat→Sq}
theorem WIn.put (h:WIn w m M sp vo ve L E gb gm gs) {n:Nat} {p p':Pr} (hp:M.pr n = some p) (hc:Chg [gb n,gm n] w w') {s':Sq} (hq:QB w' (gb n) s' (gm n)) (hm:MapB w' (gm n) .i64 (byF s')) (hr:RelP p' s') :
  WIn w' m { M with pr:=upd M.pr n (some p') } sp vo ve L E gb gm (upN gs n s'):=by
 obtain ⟨b1,b2,b3⟩:=h.pr n p hp
 have hn:(1:Int)≤n∧(n:Int)≤8:=h.rng n p hp
 have notin:∀k,k≠gb n→k≠gm n→k∉[gb n,gm n]:=fun k h1 h2 h3=>by simp at h3;exact h3.elim h1 h2
 refine ⟨Blk.chg h.blk hc (notin _ (Blk.ne_ h.blk b1 (by decide)) (Blk.ne_map h.blk b2)),h.ob.chg hc (fun k hk=>?_) (fun o ho k hk=>?_),h.ev.chg hc (fun k hk=>?_),fun i hi=>?_,fun z q pN=>?_,fun i q pN=>?_,fun i i' q q' pN hq'' jO=>?_⟩
 ·exact notin _ (fun e=>SE.not_blk h.ob.sl b1 (by decide) (e ▸ hk)) (fun e=>SE.not_map h.ob.sl b2 (e ▸ hk))
 ·exact notin _ (fun e=>SE.not_blk (h.ob.bt o ho).1 b1 (by decide) (e ▸ hk)) (fun e=>SE.not_map (h.ob.bt o ho).1 b2 (e ▸ hk))
 ·exact notin _ (fun e=>SE.not_blk h.ev.sl b1 (by decide) (e ▸ hk)) (fun e=>SE.not_map h.ev.sl b2 (e ▸ hk))
 ·show sp i = (upd M.pr n (some p') i).map fun _=>gb i
  rw [h.sp i hi]
  unfold upd
  by_cases e:(i:Int) = n
  ·rw [if_pos e,e,hp];rfl
  ·rw [if_neg e]
 ·have mD:upd M.pr n (some p') z = some q:=pN
  unfold upd at mD
  by_cases e:z = n
  ·rw [e];exact hn
  ·rw [if_neg e] at mD;exact h.rng z q mD
 ·have mD:upd M.pr n (some p') i = some q:=pN
  unfold upd at mD
  by_cases e:(i:Int) = n
  ·have e':i = n:=by omega
   subst e'
   rw [if_pos rfl] at mD
   obtain rfl:=Option.some.inj mD
   have eg:upN gs i s' i = s':=if_pos rfl
   rw [eg]
   exact ⟨hq,hm,hr⟩
  ·rw [if_neg e] at mD
   have e':i≠n:=fun x=>e (by rw [x])
   obtain ⟨c1,c2,c3⟩:=h.pr i q mD
   obtain ⟨d1,d2⟩:=h.ib i n q p mD hp e'
   have eg:upN gs n s' i = gs i:=if_neg e'
   rw [eg]
   exact ⟨Blk.chg c1 hc (notin _ d1 (Blk.ne_map c1 b2)),c2.chg hc (notin _ (fun x=>Blk.ne_map b1 c2 x.symm) d2),c3⟩
 ·have t1:∃r,M.pr i = some r:=by
   have mD:upd M.pr n (some p') i = some q:=pN
   unfold upd at mD
   by_cases e:(i:Int) = n
   ·exact ⟨p,by rw [e];exact hp⟩
   ·rw [if_neg e] at mD;exact ⟨q,mD⟩
  have t2:∃r,M.pr i' = some r:=by
   have mD:upd M.pr n (some p') i' = some q':=hq''
   unfold upd at mD
   by_cases e:(i':Int) = n
   ·exact ⟨p,by rw [e];exact hp⟩
   ·rw [if_neg e] at mD;exact ⟨q',mD⟩
  obtain ⟨r1,t1⟩:=t1
  obtain ⟨r2,t2⟩:=t2
  exact h.ib i i' r1 r2 t1 t2 jO
theorem WIn.kill (h:WIn w m M sp vo ve L E gb gm gs) {n:Nat} (hn:n < 9):WIn (w.setCell ⟨m,94+n,none⟩ (.pointer none)) m { M with pr:=upd M.pr n none } (upN sp n none) vo ve L E gb gm gs:=by
 have hc:Chg [m] w (w.setCell ⟨m,94+n,none⟩ (.pointer none)):=(Chg.refl [m] w).setCell (p:=⟨m,94+n,none⟩) (.inl (by simp)) _
 have up:∀(i:Int) q,upd M.pr n none i = some q→M.pr i = some q∧i≠n:=fun i q hq=>by
  unfold upd at hq
  by_cases e:i = n
  ·rw [if_pos e] at hq;cases hq
  ·rw [if_neg e] at hq;exact ⟨hq,e⟩
 refine ⟨WB.set_sp h.blk hn none,h.ob.chg hc (fun k hk=>?_) (fun o ho k hk=>?_),h.ev.chg hc (fun k hk=>?_),fun i hi=>?_,fun z q hq=>h.rng z q (up z q hq).1,fun i q hq=>?_,fun i i' q q' hq pN jO=>h.ib i i' q q' (up _ _ hq).1 (up _ _ pN).1 jO⟩
 ·simp;exact fun e=>SE.not_blk h.ob.sl h.blk (by decide) (e ▸ hk)
 ·simp;exact fun e=>SE.not_blk (h.ob.bt o ho).1 h.blk (by decide) (e ▸ hk)
 ·simp;exact fun e=>SE.not_blk h.ev.sl h.blk (by decide) (e ▸ hk)
 ·show upN sp n none i = (upd M.pr n none i).map fun _=>gb i
  unfold upN upd
  by_cases e:i = n
  ·rw [if_pos e,if_pos (by rw [e])];rfl
  ·rw [if_neg e,if_neg (by omega)];exact h.sp i hi
 ·obtain ⟨c1,c2,c3⟩:=h.pr i q (up _ _ hq).1
  exact ⟨Blk.chg c1 hc (by simp;exact fun e=>Blk.ne_ h.blk c1 (by decide) e.symm),c2.chg hc (by simp;exact fun e=>Blk.ne_map h.blk c2 e.symm),c3⟩
end
theorem WIn.new {w w':World} {m:Nat} {M:Mo} {sp:Nat→Option Nat} {vo ve:Value} {L:List Ob} {E:List Nat} {gb gm:Nat→Nat} {gs:Nat→Sq} (h:WIn w m M sp vo ve L E gb gm gs) {B:Nat} (jF:∀k,FW' M m vo ve L gb gm k→k < B) {F:List Nat} (hc:Chg F w w') (hF:∀k∈F,B≤k):WIn w' m M sp vo ve L E gb gm gs :=
 h.cp (CP.of (F:=fun k=>B≤k) hc (fun k hk=>.inl (hF k hk))) (fun k hk hB=>by have:=jF k hk;omega)
theorem FW'.sub {M M':Mo} {m:Nat} {vo ve:Value} {L:List Ob} {gb gm:Nat→Nat} {k:Nat} (h:FW' M' m vo ve L gb gm k) (hs:∀(i:Nat) q,M'.pr i = some q→∃q',M.pr i = some q'):FW' M m vo ve L gb gm k:=by
 rcases h with h | h | h | h | ⟨n,p,hp,hk⟩
 ·exact .inl h
 ·exact .inr (.inl h)
 ·exact .inr (.inr (.inl h))
 ·exact .inr (.inr (.inr (.inl h)))
 ·obtain ⟨q',hq⟩:=hs n p hp
  exact .inr (.inr (.inr (.inr ⟨n,q',hq,hk⟩)))
theorem mt {M:Mo} {n:Nat} {p:Pr} (hp:M.pr n = some p) (o:Option Pr) (i:Nat) (q:Pr) (h:upd M.pr n o i = some q):∃q',M.pr i = some q':=by
 unfold upd at h
 by_cases e:(i:Int) = n
 ·exact ⟨p,by rw [e];exact hp⟩
 ·rw [if_neg e] at h;exact ⟨q,h⟩
def SpR (w w':World) (m:Nat) (M:Mo) (vo ve:Value) (L:List Ob) (E:List Nat) (gb gm:Nat→Nat) (n:Nat) (R:Rs × Option Mo) (e:Ending):Prop :=
 ∃A k c,e = .returned (.agg (rsc R.1 (.slice A k c)))∧RB w' (.slice A k c) R.1.l∧(∀i∈own (.slice A k c),w.heap.size≤i)∧(∃sp' gs',WIn w' m (if R.1.e = 0 then R.2.getD M else M) sp' vo ve L E gb gm gs')∧Chg [m,gb n,gm n] w w'
theorem zf {w:World} {b:Nat} {x:Cl} {v:Value} (h:KB w b x v):(loadVar 45 ⟨b,8,none⟩).run Tryz.prog w = .ok (.agg #[.int .u8 x.ok,.int .u8 x.om]) w:=by
 obtain ⟨c0,c1,c2,c3,c4,c5,c6,c7,c8,c9,c10,c11,cl,cf⟩:=KB.cells h
 have:=run_loadVar_mid (P:=Tryz.prog) w b 8 45 [.int .u8 x.ok,.int .u8 x.om] _ (fun j u hu=>by
  match j with
  | 0=>obtain rfl:=Option.some.inj hu;exact c8
  | 1=>obtain rfl:=Option.some.inj hu;exact c9
  | j+2=>cases hu) Tryz.underlying45 rfl kx
 simpa using this
theorem iN {w:World} {b:Nat} {s:Sq} {bm:Nat} (h:QB w b s bm) {i:Nat} (hi:i < 1024):(loadVar 45 ⟨b,2049+i * 2,none⟩).run Tryz.prog w = .ok (.agg #[.int .u8 (s.po i).1,.int .u8 (s.po i).2]) w:=by
 obtain ⟨c0,c1⟩:=QB.po h hi
 have:=run_loadVar_mid (P:=Tryz.prog) w b (2049+i * 2) 45 [.int .u8 (s.po i).1,.int .u8 (s.po i).2] _ (fun j u hu=>by
  match j with
  | 0=>obtain rfl:=Option.some.inj hu;exact c0
  | 1=>obtain rfl:=Option.some.inj hu;exact c1
  | j+2=>cases hu) Tryz.underlying45 rfl kx
 simpa using this
theorem eG {w:World} {b:Nat} {s:Sq} {bm:Nat} (h:QB w b s bm):(loadVar 45 ⟨b,4097,none⟩).run Tryz.prog w = .ok (.agg #[.int .u8 s.ak,.int .u8 s.am]) w:=by
 obtain ⟨c0,c1⟩:=QB.all h
 have:=run_loadVar_mid (P:=Tryz.prog) w b 4097 45 [.int .u8 s.ak,.int .u8 s.am] _ (fun j u hu=>by
  match j with
  | 0=>obtain rfl:=Option.some.inj hu;exact c0
  | 1=>obtain rfl:=Option.some.inj hu;exact c1
  | j+2=>cases hu) Tryz.underlying45 rfl kx
 simpa using this
section
variable {ops:Array Oper} {rest:List Oper} {o:Oper} {a:Act} {w:World} {Q:Exit→Act→World→Prop} {b:Nat} {s:Sq} {bm:Nat}
theorem vb {k m:Nat} (hg:o.guard = none) (x y:Operand) (ho:o.op = .store 45 x y) (hx:a.eval x = .pointer (some ⟨b,4097,none⟩)) (hy:a.eval y = .agg #[.int .u8 k,.int .u8 m]) (h0:QB w b s bm)
  (h:∀w',QB w' b { s with ak:=k,am:=m } bm→Chg [b] w w'→wpList Tryz.prog ops Q rest (a.put o.dst undef) w'):wpList Tryz.prog ops Q (o :: rest) a w :=
 wpList_store_mid hg 45 x y ho b 4097 #[.int .u8 k,.int .u8 m] hx hy (fun j hj=>by
  have sL:j < 2:=hj
  refine ⟨?_,Blk.frozen h0 _⟩
  match j,sL with
  | 0,_=>rw [Nat.add_zero,(QB.all h0).1];rfl
  | 1,_=>rw [(QB.all h0).2];rfl) kx (by simp [show ∀k z,(Value.int k z).oneCell' = true from fun _ _=>rfl]) (h _ (QB.set_all h0 k m) (((Chg.refl [b] w).setCell (p:=⟨b,4097,none⟩) (.inl (by simp)) _).setCell (p:=⟨b,4098,none⟩) (.inl (by simp)) _))
theorem cZ {α:Type} (f:Int→α) (z:Int):upd f z (f z) = f:=by
 funext y;unfold upd;split
 ·rename_i h;rw [h]
 ·rfl
theorem WIn.same {w:World} {m:Nat} {M:Mo} {sp:Nat→Option Nat} {vo ve:Value} {L:List Ob} {E:List Nat} {gb gm:Nat→Nat} {gs:Nat→Sq} {n:Nat} {p:Pr} (hp:M.pr n = some p) (h:WIn w m { M with pr:=upd M.pr n (some p) } sp vo ve L E gb gm gs):WIn w m M sp vo ve L E gb gm gs:=by
 have e:upd M.pr n (some p) = M.pr:=by rw [← hp];exact cZ _ _
 rw [e] at h
 exact h
end
theorem eR {w:World} {m:Nat} {M:Mo} {sp:Nat→Option Nat} {vo ve:Value} {L:List Ob} {E:List Nat} {gb gm:Nat→Nat} {gs:Nat→Sq} (h:WIn w m M sp vo ve L E gb gm gs) (jF:∀k,FW' M m vo ve L gb gm k→k < w.heap.size)
  {x:Cl} (hx:x.Ok) {n:Nat} (kX:x.p = n) {p:Pr} (hp:M.pr n = some p) (hk:x.k = 2) (v:Value) (hv:v.oneCell' = true) :
  Calls Tryz.prog 77 #[.pointer (some ⟨m,0,none⟩),.pointer (some ⟨gb n,0,none⟩),.agg (clc x v)] w fun e w'=>SpR w w' m M vo ve L E gb gm n (cd M x 0 p) e:=by
 obtain ⟨n1,n8⟩:=h.rng n p hp
 have mW:n < 9:=by omega
 have hR:cd M x 0 p = (aq 0,some { M with pr:=upd M.pr n none }):=by unfold cd;rw [if_pos hk,kX]
 rw [hR]
 clear hR
 obtain ⟨W1,jG⟩:∃W1,W1 = w.alloc (.cells (clc x v) 47):=⟨_,rfl⟩
 obtain ⟨W2,jB⟩:∃W2,W2 = W1.alloc (.cells (rsc zRs zV) 40):=⟨_,rfl⟩
 have c01:Chg [] w W1:=by rw [jG];exact (Chg.refl [] w).alloc _
 have c12:Chg [] W1 W2:=by rw [jB];exact (Chg.refl [] W1).alloc _
 have kG:KB W2 w.heap.size x v:=KB.stay (by rw [jG];exact Blk.new w _ _) c12
 have kJ:XB W2 W1.heap.size zRs zV:=by rw [jB];exact Blk.new W1 _ _
 have e1:W1.heap.size = w.heap.size+1:=by rw [jG];exact af _ _
 obtain ⟨b3,jS⟩:∃y,y = w.heap.size:=⟨_,rfl⟩
 obtain ⟨b6,kV⟩:∃y,y = W1.heap.size:=⟨_,rfl⟩
 rw [← jS] at kG
 rw [← kV] at kJ
 have HI:=ah (fun W (hc:Chg [] W2 W)=>h.stay ((c01.stay c12).stay hc))
 have kY:=ah (fun W (hc:Chg [] W2 W)=>(KB.stay kG hc:KB W b3 x v))
 have kD:=ah (fun W (hc:Chg [] W2 W)=>(XB.stay kJ hc:XB W b6 zRs zV))
 have jJ:=ah (c01.stay c12)
 have kW:=ah jG
 have jP:=ah jB
 have HB:=ah (show b3 = w.heap.size∧b6 = w.heap.size+1 by omega)
 have jY:=ah jS
 have kH:=ah kV
 have jK:=ah jF
 have HP:=ah hp
 have HN:=ah (show 1≤n∧n < 9 by omega)
 have mJ:=ah (And.intro hk kX)
 have pR:=ah hx
 skip
 clear h jF hx kX hp c01 c12 kG kJ e1 jS kV jG jB n1 n8 mW hk
 go_enter Tryz.func77,Tryz.ntmps77
 go_upto_region 1 with (first|refine ax rfl _ rfl rfl ?_;try rw [← kW.out]|refine bn rfl rfl ?_;try rw [← jP.out])
 try rw [← jY.out,← kH.out]
 refine uh [0,1,0,1,0,0] ?_
 have hS:Chg [] W2 W2.drew:=(Chg.refl [] W2).drew
 generalize W2.drew = W3 at hS ⊢
 have HS:=ah hS
 have hI:=HI.out W3 hS
 obtain ⟨hq,lS,hrel⟩:=hI.pr n p HP.out
 have nE:=ah hI
 have HQ:=ah hq
 have nP:=ah lS
 have jQ:=ah hrel
 obtain ⟨r0,r1,-,r3,r4,r5,r6,r7,r8,r9,-,r11,rl,-⟩:=KB.cells (kY.out W3 hS)
 rw [mJ.out.1] at r0
 rw [mJ.out.2] at r1
 have gl:=Blk.lt hq
 have ml:=Blk.lt hI.blk
 have qs:=WIn.sp_at hI HN.out.2
 have vN:=Blk.frozen hI.blk (94+n)
 have i0:(0:Int)≤(n:Int):=by omega
 have i1:(n:Int) < 9:=by have:=HN.out;omega
 clear hS hI hq lS hrel
 go_wp2_with (first|refine av fun K I=>?_|refine ai fun K I=>?_;go_simp;refine I _ _ ?_;clear I K|refine ao fun K I=>?_;go_simp|refine aj ?_)
 refine rgn7 [0,0,1,0,0,0,3] ?_
 go_wp2_with (first|refine av fun K I=>?_|refine ai fun K I=>?_;go_simp;refine I _ _ ?_;clear I K|refine ao fun K I=>?_;go_simp|refine aj ?_)
 refine (dd 0 _).mono ?_
 rintro e W5 ⟨rfl,U⟩
 have jL:=ah U
 have oW:=ah (show Chg [m] W3 W5 from (((Chg.refl [m] W3).setCell (p:=⟨m,94+n,none⟩) (.inl (by simp)) _).drew).stay U)
 clear U
 go_wp2_with (first|refine au (b:=b6) (x:=zRs) (v:=zV) (y:=aq 0) (u:=zV) rfl _ _ rfl rfl rfl rfl (Blk.chg (kD.out W3 HS.out) oW.out (by have:=HB.out;have:=jK.out m (.inl rfl);simp;omega)) ?_;intro W6 h6 iZ)
 refine bodyPost_ret (v:=.agg (rsc (aq 0) zV)) (results_cell_row (p:=6) (ty:=40) rfl _ _ b6 40 _ (0,0) _ rfl h6 Tryz.underlying40 rfl ct) rfl ?_
 refine ⟨none,0,0,rfl,RE.nil ucl 1 _ none 0,fun _ hk=>(bw hk).elim,⟨upN sp n none,gs,?_⟩,?_⟩
 ·show WIn W6 m { M with pr:=upd M.pr n none } (upN sp n none) vo ve L E gb gm gs
  exact ((((WIn.kill nE.out HN.out.2).stay (Chg.refl [] _).drew).stay jL.out).new (B:=w.heap.size) (fun k hk=>jK.out k (hk.sub (mt HP.out none))) iZ (fun y hy=>by obtain rfl:=aa hy;have:=HB.out;omega))
 ·exact (((jJ.out.stay HS.out).up [m,gb n,gm n]).trans oW.out (fun y hy=>.inl (by obtain rfl:=aa hy;simp))).trans iZ (fun y hy=>.inr (by obtain rfl:=aa hy;have:=HB.out;omega))
theorem cO {w:World} {m:Nat} {M:Mo} {sp:Nat→Option Nat} {vo ve:Value} {L:List Ob} {E:List Nat} {gb gm:Nat→Nat} {gs:Nat→Sq} (h:WIn w m M sp vo ve L E gb gm gs) (jF:∀k,FW' M m vo ve L gb gm k→k < w.heap.size)
  {x:Cl} (hx:x.Ok) {n:Nat} (kX:x.p = n) {p:Pr} (hp:M.pr n = some p) (hk:x.k = 14) (v:Value) (hv:v.oneCell' = true) :
  Calls Tryz.prog 77 #[.pointer (some ⟨m,0,none⟩),.pointer (some ⟨gb n,0,none⟩),.agg (clc x v)] w fun e w'=>SpR w w' m M vo ve L E gb gm n (cd M x 0 p) e:=by
 obtain ⟨n1,n8⟩:=h.rng n p hp
 have mW:n < 9:=by omega
 have hR:cd M x 0 p = (aq 0,some { M with pr:=upd M.pr n (some { p with pk:=x.ok,pm:=x.om }) }):=by unfold cd;rw [if_neg (by omega),if_pos hk,kX]
 rw [hR]
 clear hR
 obtain ⟨W1,jG⟩:∃W1,W1 = w.alloc (.cells (clc x v) 47):=⟨_,rfl⟩
 obtain ⟨W2,jB⟩:∃W2,W2 = W1.alloc (.cells (rsc zRs zV) 40):=⟨_,rfl⟩
 have c01:Chg [] w W1:=by rw [jG];exact (Chg.refl [] w).alloc _
 have c12:Chg [] W1 W2:=by rw [jB];exact (Chg.refl [] W1).alloc _
 have kG:KB W2 w.heap.size x v:=KB.stay (by rw [jG];exact Blk.new w _ _) c12
 have kJ:XB W2 W1.heap.size zRs zV:=by rw [jB];exact Blk.new W1 _ _
 have e1:W1.heap.size = w.heap.size+1:=by rw [jG];exact af _ _
 obtain ⟨b3,jS⟩:∃y,y = w.heap.size:=⟨_,rfl⟩
 obtain ⟨b6,kV⟩:∃y,y = W1.heap.size:=⟨_,rfl⟩
 rw [← jS] at kG
 rw [← kV] at kJ
 have HI:=ah (fun W (hc:Chg [] W2 W)=>h.stay ((c01.stay c12).stay hc))
 have kY:=ah (fun W (hc:Chg [] W2 W)=>(KB.stay kG hc:KB W b3 x v))
 have kD:=ah (fun W (hc:Chg [] W2 W)=>(XB.stay kJ hc:XB W b6 zRs zV))
 have jJ:=ah (c01.stay c12)
 have kW:=ah jG
 have jP:=ah jB
 have HB:=ah (show b3 = w.heap.size∧b6 = w.heap.size+1 by omega)
 have jY:=ah jS
 have kH:=ah kV
 have jK:=ah jF
 have HP:=ah hp
 have HN:=ah (show 1≤n∧n < 9 by omega)
 have mJ:=ah (And.intro hk kX)
 have pR:=ah hx
 skip
 clear h jF hx kX hp c01 c12 kG kJ e1 jS kV jG jB n1 n8 mW hk
 go_enter Tryz.func77,Tryz.ntmps77
 go_upto_region 1 with (first|refine ax rfl _ rfl rfl ?_;try rw [← kW.out]|refine bn rfl rfl ?_;try rw [← jP.out])
 try rw [← jY.out,← kH.out]
 refine uh [0,1,0,1,0,0] ?_
 have hS:Chg [] W2 W2.drew:=(Chg.refl [] W2).drew
 generalize W2.drew = W3 at hS ⊢
 have HS:=ah hS
 have hI:=HI.out W3 hS
 obtain ⟨hq,lS,hrel⟩:=hI.pr n p HP.out
 have nE:=ah hI
 have HQ:=ah hq
 have nP:=ah lS
 have jQ:=ah hrel
 obtain ⟨r0,r1,-,r3,r4,r5,r6,r7,r8,r9,-,r11,rl,-⟩:=KB.cells (kY.out W3 hS)
 rw [mJ.out.1] at r0
 rw [mJ.out.2] at r1
 have gl:=Blk.lt hq
 have ml:=Blk.lt hI.blk
 have sM:=zf (kY.out W3 hS)
 clear hS hI hq lS hrel
 go_wp2_with (first|refine gc (ty:=45) (ad:=⟨b3,8,none⟩) (v:=.agg #[.int .u8 x.ok,.int .u8 x.om]) rfl _ rfl rfl ?_ ?_;(focus exact sM)|refine vb (b:=gb n) (k:=x.ok) (m:=x.om) rfl _ _ rfl rfl rfl HQ.out ?_;intro W4 h4 jT;have H4:=ah h4;have jR:=ah jT;clear h4 jT|refine av fun K I=>?_|refine ai fun K I=>?_;go_simp;refine I _ _ ?_;clear I K|refine ao fun K I=>?_;go_simp|refine aj ?_)
 refine (dd 0 _).mono ?_
 rintro e W5 ⟨rfl,U⟩
 have jL:=ah U
 have oW:=ah (show Chg [gb n,gm n] W3 W5 from ((jR.out.mono (fun y hy=>.inl (by obtain rfl:=aa hy;simp))):Chg [gb n,gm n] W3 W4).stay U)
 have uC:=ah (show WIn W5 m { M with pr:=upd M.pr n (some { p with pk:=x.ok,pm:=x.om }) } sp vo ve L E gb gm (upN gs n { gs n with ak:=x.ok,am:=x.om }) from (nE.out.put (p':={ p with pk:=x.ok,pm:=x.om }) HP.out (jR.out.mono (fun y hy=>.inl (by obtain rfl:=aa hy;simp))) H4.out (nP.out.chg jR.out (by simp;exact fun e=>Blk.ne_map HQ.out nP.out e.symm)) ⟨jQ.out.rt,jQ.out.by_,jQ.out.b8,jQ.out.ow,jQ.out.po,rfl,rfl⟩).stay U)
 clear U
 go_wp2_with (first|refine au (b:=b6) (x:=zRs) (v:=zV) (y:=aq 0) (u:=zV) rfl _ _ rfl rfl rfl rfl (Blk.chg (kD.out W3 HS.out) oW.out (by have h1:=HB.out;have h2:=jK.out (gb n) (.inr (.inr (.inr (.inr ⟨n,p,HP.out,.inl rfl⟩))));have h3:=jK.out (gm n) (.inr (.inr (.inr (.inr ⟨n,p,HP.out,.inr rfl⟩))));simp;omega)) ?_;intro W6 h6 iZ)
 refine bodyPost_ret (v:=.agg (rsc (aq 0) zV)) (results_cell_row (p:=6) (ty:=40) rfl _ _ b6 40 _ (0,0) _ rfl h6 Tryz.underlying40 rfl ct) rfl ?_
 refine ⟨none,0,0,rfl,RE.nil ucl 1 _ none 0,fun _ hk=>(bw hk).elim,⟨sp,(upN gs n { gs n with ak:=x.ok,am:=x.om }),?_⟩,?_⟩
 ·show WIn W6 m { M with pr:=upd M.pr n (some { p with pk:=x.ok,pm:=x.om }) } sp vo ve L E gb gm (upN gs n { gs n with ak:=x.ok,am:=x.om })
  exact (uC.out).new (B:=w.heap.size) (fun k hk=>jK.out k (hk.sub (mt HP.out _))) iZ (fun y hy=>by obtain rfl:=aa hy;have:=HB.out;omega)
 ·exact (((jJ.out.stay HS.out).up [m,gb n,gm n]).trans oW.out (fun y hy=>.inl (by simp at hy;simp;omega))).trans iZ (fun y hy=>.inr (by obtain rfl:=aa hy;have:=HB.out;omega))
theorem eS {w:World} {m:Nat} {M:Mo} {sp:Nat→Option Nat} {vo ve:Value} {L:List Ob} {E:List Nat} {gb gm:Nat→Nat} {gs:Nat→Sq} (h:WIn w m M sp vo ve L E gb gm gs) (jF:∀k,FW' M m vo ve L gb gm k→k < w.heap.size)
  {x:Cl} (hx:x.Ok) {n:Nat} (kX:x.p = n) {p:Pr} (hp:M.pr n = some p) (hs:Ar.Sp p.rl) (hk:x.k = 3) (hg:0≤x.g∧1≤x.c∧x.c≤1024∧x.g≤1024 - x.c) (hr:1≤x.r∧x.r≤3) (v:Value) (hv:v.oneCell' = true) :
  Calls Tryz.prog 77 #[.pointer (some ⟨m,0,none⟩),.pointer (some ⟨gb n,0,none⟩),.agg (clc x v)] w fun e w'=>SpR w w' m M vo ve L E gb gm n (cd M x 0 p) e:=by
 obtain ⟨n1,n8⟩:=h.rng n p hp
 have mW:n < 9:=by omega
 have hR:cd M x 0 p = (aq (ch p x).1,some { M with pr:=upd M.pr n (some (ch p x).2) }):=by unfold cd;rw [if_neg (by omega),if_neg (by omega),if_neg (by omega),if_pos (by omega),kX]
 rw [hR]
 clear hR
 obtain ⟨E0,yI⟩:∃e,e = (ch p x).1:=⟨_,rfl⟩
 obtain ⟨P0,yK⟩:∃q,q = (ch p x).2:=⟨_,rfl⟩
 rw [← yI,← yK]
 obtain ⟨W1,jG⟩:∃W1,W1 = w.alloc (.cells (clc x v) 47):=⟨_,rfl⟩
 obtain ⟨W2,jB⟩:∃W2,W2 = W1.alloc (.cells (rsc zRs zV) 40):=⟨_,rfl⟩
 have c01:Chg [] w W1:=by rw [jG];exact (Chg.refl [] w).alloc _
 have c12:Chg [] W1 W2:=by rw [jB];exact (Chg.refl [] W1).alloc _
 have kG:KB W2 w.heap.size x v:=KB.stay (by rw [jG];exact Blk.new w _ _) c12
 have kJ:XB W2 W1.heap.size zRs zV:=by rw [jB];exact Blk.new W1 _ _
 have e1:W1.heap.size = w.heap.size+1:=by rw [jG];exact af _ _
 obtain ⟨b3,jS⟩:∃y,y = w.heap.size:=⟨_,rfl⟩
 obtain ⟨b6,kV⟩:∃y,y = W1.heap.size:=⟨_,rfl⟩
 rw [← jS] at kG
 rw [← kV] at kJ
 have HI:=ah (fun W (hc:Chg [] W2 W)=>h.stay ((c01.stay c12).stay hc))
 have kY:=ah (fun W (hc:Chg [] W2 W)=>(KB.stay kG hc:KB W b3 x v))
 have kD:=ah (fun W (hc:Chg [] W2 W)=>(XB.stay kJ hc:XB W b6 zRs zV))
 have jJ:=ah (c01.stay c12)
 have kW:=ah jG
 have jP:=ah jB
 have HB:=ah (show b3 = w.heap.size∧b6 = w.heap.size+1 by omega)
 have jY:=ah jS
 have kH:=ah kV
 have jK:=ah jF
 have HP:=ah hp
 have HN:=ah (show 1≤n∧n < 9 by omega)
 have mJ:=ah (And.intro hk kX)
 have pR:=ah hx
 have HG:=ah hg;have lI:=ah hs;have xN:=ah (And.intro yI yK);have HV:=ah hv;have pT:=ah hr
 clear h jF hx kX hp c01 c12 kG kJ e1 jS kV jG jB n1 n8 mW hk hg hs yI yK hr
 go_enter Tryz.func77,Tryz.ntmps77
 go_upto_region 1 with (first|refine ax rfl _ rfl rfl ?_;try rw [← kW.out]|refine bn rfl rfl ?_;try rw [← jP.out])
 try rw [← jY.out,← kH.out]
 refine uh [0,1,0,1,0,0] ?_
 have hS:Chg [] W2 W2.drew:=(Chg.refl [] W2).drew
 generalize W2.drew = W3 at hS ⊢
 have HS:=ah hS
 have hI:=HI.out W3 hS
 obtain ⟨hq,lS,hrel⟩:=hI.pr n p HP.out
 have nE:=ah hI
 have HQ:=ah hq
 have nP:=ah lS
 have jQ:=ah hrel
 obtain ⟨r0,r1,-,r3,r4,r5,r6,r7,r8,r9,-,r11,rl,-⟩:=KB.cells (kY.out W3 hS)
 rw [mJ.out.1] at r0
 rw [mJ.out.2] at r1
 have gl:=Blk.lt hq
 have ml:=Blk.lt hI.blk
 skip
 clear hS hI hq lS hrel
 have mZ:=ah (bH HQ.out nP.out jQ.out lI.out mJ.out.1 HG.out pT.out v HV.out)
 go_wp2_with (first|refine ck (b:=b3) (x:=x) (v:=v) rfl _ rfl rfl ?_ ?_;(focus exact kY.out W3 HS.out)|refine av fun K I=>?_|refine ai fun K I=>?_;go_simp;refine I _ _ ?_;clear I K|refine ao fun K I=>?_;go_simp|refine aj ?_)
 refine mZ.out.mono ?_
 rintro e W4 ⟨⟨rfl,s',h4,hm4,hr4⟩,jT⟩
 rw [← xN.out.1]
 rw [← xN.out.1,← xN.out.2] at hr4
 have oM:=ah (nE.out.put HP.out jT h4 hm4 hr4)
 have jR:=ah jT
 clear h4 hm4 hr4 jT mZ
 go_wp2_with fail
 refine (dd E0 _).mono ?_
 rintro e W5 ⟨rfl,U⟩
 have jL:=ah U
 have oW:=ah (show Chg [gb n,gm n] W3 W5 from jR.out.stay U)
 clear U
 go_wp2_with (first|refine au (b:=b6) (x:=zRs) (v:=zV) (y:=aq E0) (u:=zV) rfl _ _ rfl rfl rfl rfl (Blk.chg (kD.out W3 HS.out) oW.out (by have h1:=HB.out;have h2:=jK.out (gb n) (.inr (.inr (.inr (.inr ⟨n,p,HP.out,.inl rfl⟩))));have h3:=jK.out (gm n) (.inr (.inr (.inr (.inr ⟨n,p,HP.out,.inr rfl⟩))));simp;omega)) ?_;intro W6 h6 iZ)
 refine bodyPost_ret (v:=.agg (rsc (aq E0) zV)) (results_cell_row (p:=6) (ty:=40) rfl _ _ b6 40 _ (0,0) _ rfl h6 Tryz.underlying40 rfl ct) rfl ?_
 by_cases h0:E0 = 0
 ·have uC:=ah (show WIn W5 m { M with pr:=upd M.pr n (some P0) } sp vo ve L E gb gm (upN gs n s') from by have h5:=oM.out.stay jL.out;rw [if_pos h0] at h5;exact h5)
  subst h0
  refine ⟨none,0,0,rfl,RE.nil ucl 1 _ none 0,fun _ hk=>(bw hk).elim,⟨sp,(upN gs n s'),?_⟩,?_⟩
  ·show WIn W6 m { M with pr:=upd M.pr n (some P0) } sp vo ve L E gb gm (upN gs n s')
   exact (uC.out).new (B:=w.heap.size) (fun k hk=>jK.out k (hk.sub (mt HP.out _))) iZ (fun y hy=>by obtain rfl:=aa hy;have:=HB.out;omega)
  ·exact (((jJ.out.stay HS.out).up [m,gb n,gm n]).trans oW.out (fun y hy=>.inl (by simp at hy;simp;omega))).trans iZ (fun y hy=>.inr (by obtain rfl:=aa hy;have:=HB.out;omega))
 ·have uC:=ah (show WIn W5 m M sp vo ve L E gb gm (upN gs n s') from by have h5:=oM.out.stay jL.out;rw [if_neg h0] at h5;exact WIn.same HP.out h5)
  refine ⟨none,0,0,rfl,RE.nil ucl 1 _ none 0,fun _ hk=>(bw hk).elim,⟨sp,(upN gs n s'),?_⟩,?_⟩
  ·show WIn W6 m (if E0 = 0 then _ else M) sp vo ve L E gb gm (upN gs n s')
   rw [if_neg h0];exact (uC.out).new (B:=w.heap.size) (fun k hk=>jK.out k hk) iZ (fun y hy=>by obtain rfl:=aa hy;have:=HB.out;omega)
  ·exact (((jJ.out.stay HS.out).up [m,gb n,gm n]).trans oW.out (fun y hy=>.inl (by simp at hy;simp;omega))).trans iZ (fun y hy=>.inr (by obtain rfl:=aa hy;have:=HB.out;omega))
theorem eT {w:World} {m:Nat} {M:Mo} {sp:Nat→Option Nat} {vo ve:Value} {L:List Ob} {E:List Nat} {gb gm:Nat→Nat} {gs:Nat→Sq} (h:WIn w m M sp vo ve L E gb gm gs) (jF:∀k,FW' M m vo ve L gb gm k→k < w.heap.size)
  {x:Cl} (hx:x.Ok) {n:Nat} (kX:x.p = n) {p:Pr} (hp:M.pr n = some p) (hs:Ar.Sp p.rl) (hk:x.k = 4) (hg:0≤x.g∧1≤x.c∧x.c≤1024∧x.g≤1024 - x.c) (v:Value) (hv:v.oneCell' = true) :
  Calls Tryz.prog 77 #[.pointer (some ⟨m,0,none⟩),.pointer (some ⟨gb n,0,none⟩),.agg (clc x v)] w fun e w'=>SpR w w' m M vo ve L E gb gm n (cd M x 0 p) e:=by
 obtain ⟨n1,n8⟩:=h.rng n p hp
 have mW:n < 9:=by omega
 have hR:cd M x 0 p = (aq (ch p x).1,some { M with pr:=upd M.pr n (some (ch p x).2) }):=by unfold cd;rw [if_neg (by omega),if_neg (by omega),if_neg (by omega),if_pos (by omega),kX]
 rw [hR]
 clear hR
 obtain ⟨E0,yI⟩:∃e,e = (ch p x).1:=⟨_,rfl⟩
 obtain ⟨P0,yK⟩:∃q,q = (ch p x).2:=⟨_,rfl⟩
 rw [← yI,← yK]
 obtain ⟨W1,jG⟩:∃W1,W1 = w.alloc (.cells (clc x v) 47):=⟨_,rfl⟩
 obtain ⟨W2,jB⟩:∃W2,W2 = W1.alloc (.cells (rsc zRs zV) 40):=⟨_,rfl⟩
 have c01:Chg [] w W1:=by rw [jG];exact (Chg.refl [] w).alloc _
 have c12:Chg [] W1 W2:=by rw [jB];exact (Chg.refl [] W1).alloc _
 have kG:KB W2 w.heap.size x v:=KB.stay (by rw [jG];exact Blk.new w _ _) c12
 have kJ:XB W2 W1.heap.size zRs zV:=by rw [jB];exact Blk.new W1 _ _
 have e1:W1.heap.size = w.heap.size+1:=by rw [jG];exact af _ _
 obtain ⟨b3,jS⟩:∃y,y = w.heap.size:=⟨_,rfl⟩
 obtain ⟨b6,kV⟩:∃y,y = W1.heap.size:=⟨_,rfl⟩
 rw [← jS] at kG
 rw [← kV] at kJ
 have HI:=ah (fun W (hc:Chg [] W2 W)=>h.stay ((c01.stay c12).stay hc))
 have kY:=ah (fun W (hc:Chg [] W2 W)=>(KB.stay kG hc:KB W b3 x v))
 have kD:=ah (fun W (hc:Chg [] W2 W)=>(XB.stay kJ hc:XB W b6 zRs zV))
 have jJ:=ah (c01.stay c12)
 have kW:=ah jG
 have jP:=ah jB
 have HB:=ah (show b3 = w.heap.size∧b6 = w.heap.size+1 by omega)
 have jY:=ah jS
 have kH:=ah kV
 have jK:=ah jF
 have HP:=ah hp
 have HN:=ah (show 1≤n∧n < 9 by omega)
 have mJ:=ah (And.intro hk kX)
 have pR:=ah hx
 have HG:=ah hg;have lI:=ah hs;have xN:=ah (And.intro yI yK);have HV:=ah hv
 clear h jF hx kX hp c01 c12 kG kJ e1 jS kV jG jB n1 n8 mW hk hg hs yI yK
 go_enter Tryz.func77,Tryz.ntmps77
 go_upto_region 1 with (first|refine ax rfl _ rfl rfl ?_;try rw [← kW.out]|refine bn rfl rfl ?_;try rw [← jP.out])
 try rw [← jY.out,← kH.out]
 refine uh [0,1,0,1,0,0] ?_
 have hS:Chg [] W2 W2.drew:=(Chg.refl [] W2).drew
 generalize W2.drew = W3 at hS ⊢
 have HS:=ah hS
 have hI:=HI.out W3 hS
 obtain ⟨hq,lS,hrel⟩:=hI.pr n p HP.out
 have nE:=ah hI
 have HQ:=ah hq
 have nP:=ah lS
 have jQ:=ah hrel
 obtain ⟨r0,r1,-,r3,r4,r5,r6,r7,r8,r9,-,r11,rl,-⟩:=KB.cells (kY.out W3 hS)
 rw [mJ.out.1] at r0
 rw [mJ.out.2] at r1
 have gl:=Blk.lt hq
 have ml:=Blk.lt hI.blk
 skip
 clear hS hI hq lS hrel
 have mZ:=ah (bI HQ.out nP.out jQ.out lI.out mJ.out.1 HG.out v HV.out)
 go_wp2_with (first|refine ck (b:=b3) (x:=x) (v:=v) rfl _ rfl rfl ?_ ?_;(focus exact kY.out W3 HS.out)|refine av fun K I=>?_|refine ai fun K I=>?_;go_simp;refine I _ _ ?_;clear I K|refine ao fun K I=>?_;go_simp|refine aj ?_)
 refine mZ.out.mono ?_
 rintro e W4 ⟨⟨rfl,s',h4,hm4,hr4⟩,jT⟩
 rw [← xN.out.1]
 rw [← xN.out.1,← xN.out.2] at hr4
 have oM:=ah (nE.out.put HP.out jT h4 hm4 hr4)
 have jR:=ah jT
 clear h4 hm4 hr4 jT mZ
 go_wp2_with fail
 refine (dd E0 _).mono ?_
 rintro e W5 ⟨rfl,U⟩
 have jL:=ah U
 have oW:=ah (show Chg [gb n,gm n] W3 W5 from jR.out.stay U)
 clear U
 go_wp2_with (first|refine au (b:=b6) (x:=zRs) (v:=zV) (y:=aq E0) (u:=zV) rfl _ _ rfl rfl rfl rfl (Blk.chg (kD.out W3 HS.out) oW.out (by have h1:=HB.out;have h2:=jK.out (gb n) (.inr (.inr (.inr (.inr ⟨n,p,HP.out,.inl rfl⟩))));have h3:=jK.out (gm n) (.inr (.inr (.inr (.inr ⟨n,p,HP.out,.inr rfl⟩))));simp;omega)) ?_;intro W6 h6 iZ)
 refine bodyPost_ret (v:=.agg (rsc (aq E0) zV)) (results_cell_row (p:=6) (ty:=40) rfl _ _ b6 40 _ (0,0) _ rfl h6 Tryz.underlying40 rfl ct) rfl ?_
 by_cases h0:E0 = 0
 ·have uC:=ah (show WIn W5 m { M with pr:=upd M.pr n (some P0) } sp vo ve L E gb gm (upN gs n s') from by have h5:=oM.out.stay jL.out;rw [if_pos h0] at h5;exact h5)
  subst h0
  refine ⟨none,0,0,rfl,RE.nil ucl 1 _ none 0,fun _ hk=>(bw hk).elim,⟨sp,(upN gs n s'),?_⟩,?_⟩
  ·show WIn W6 m { M with pr:=upd M.pr n (some P0) } sp vo ve L E gb gm (upN gs n s')
   exact (uC.out).new (B:=w.heap.size) (fun k hk=>jK.out k (hk.sub (mt HP.out _))) iZ (fun y hy=>by obtain rfl:=aa hy;have:=HB.out;omega)
  ·exact (((jJ.out.stay HS.out).up [m,gb n,gm n]).trans oW.out (fun y hy=>.inl (by simp at hy;simp;omega))).trans iZ (fun y hy=>.inr (by obtain rfl:=aa hy;have:=HB.out;omega))
 ·have uC:=ah (show WIn W5 m M sp vo ve L E gb gm (upN gs n s') from by have h5:=oM.out.stay jL.out;rw [if_neg h0] at h5;exact WIn.same HP.out h5)
  refine ⟨none,0,0,rfl,RE.nil ucl 1 _ none 0,fun _ hk=>(bw hk).elim,⟨sp,(upN gs n s'),?_⟩,?_⟩
  ·show WIn W6 m (if E0 = 0 then _ else M) sp vo ve L E gb gm (upN gs n s')
   rw [if_neg h0];exact (uC.out).new (B:=w.heap.size) (fun k hk=>jK.out k hk) iZ (fun y hy=>by obtain rfl:=aa hy;have:=HB.out;omega)
  ·exact (((jJ.out.stay HS.out).up [m,gb n,gm n]).trans oW.out (fun y hy=>.inl (by simp at hy;simp;omega))).trans iZ (fun y hy=>.inr (by obtain rfl:=aa hy;have:=HB.out;omega))
theorem eU {w:World} {m:Nat} {M:Mo} {sp:Nat→Option Nat} {vo ve:Value} {L:List Ob} {E:List Nat} {gb gm:Nat→Nat} {gs:Nat→Sq} (h:WIn w m M sp vo ve L E gb gm gs) (jF:∀k,FW' M m vo ve L gb gm k→k < w.heap.size)
  {x:Cl} (hx:x.Ok) {n:Nat} (kX:x.p = n) {p:Pr} (hp:M.pr n = some p) (hs:Ar.Sp p.rl) (hk:x.k = 5) (hg:0≤x.g∧1≤x.c∧x.c≤1024∧x.g≤1024 - x.c) (hr:1≤x.r∧x.r≤3) (v:Value) (hv:v.oneCell' = true) :
  Calls Tryz.prog 77 #[.pointer (some ⟨m,0,none⟩),.pointer (some ⟨gb n,0,none⟩),.agg (clc x v)] w fun e w'=>SpR w w' m M vo ve L E gb gm n (cd M x 0 p) e:=by
 obtain ⟨n1,n8⟩:=h.rng n p hp
 have mW:n < 9:=by omega
 have hR:cd M x 0 p = (aq (ch p x).1,some { M with pr:=upd M.pr n (some (ch p x).2) }):=by unfold cd;rw [if_neg (by omega),if_neg (by omega),if_neg (by omega),if_pos (by omega),kX]
 rw [hR]
 clear hR
 obtain ⟨E0,yI⟩:∃e,e = (ch p x).1:=⟨_,rfl⟩
 obtain ⟨P0,yK⟩:∃q,q = (ch p x).2:=⟨_,rfl⟩
 rw [← yI,← yK]
 obtain ⟨W1,jG⟩:∃W1,W1 = w.alloc (.cells (clc x v) 47):=⟨_,rfl⟩
 obtain ⟨W2,jB⟩:∃W2,W2 = W1.alloc (.cells (rsc zRs zV) 40):=⟨_,rfl⟩
 have c01:Chg [] w W1:=by rw [jG];exact (Chg.refl [] w).alloc _
 have c12:Chg [] W1 W2:=by rw [jB];exact (Chg.refl [] W1).alloc _
 have kG:KB W2 w.heap.size x v:=KB.stay (by rw [jG];exact Blk.new w _ _) c12
 have kJ:XB W2 W1.heap.size zRs zV:=by rw [jB];exact Blk.new W1 _ _
 have e1:W1.heap.size = w.heap.size+1:=by rw [jG];exact af _ _
 obtain ⟨b3,jS⟩:∃y,y = w.heap.size:=⟨_,rfl⟩
 obtain ⟨b6,kV⟩:∃y,y = W1.heap.size:=⟨_,rfl⟩
 rw [← jS] at kG
 rw [← kV] at kJ
 have HI:=ah (fun W (hc:Chg [] W2 W)=>h.stay ((c01.stay c12).stay hc))
 have kY:=ah (fun W (hc:Chg [] W2 W)=>(KB.stay kG hc:KB W b3 x v))
 have kD:=ah (fun W (hc:Chg [] W2 W)=>(XB.stay kJ hc:XB W b6 zRs zV))
 have jJ:=ah (c01.stay c12)
 have kW:=ah jG
 have jP:=ah jB
 have HB:=ah (show b3 = w.heap.size∧b6 = w.heap.size+1 by omega)
 have jY:=ah jS
 have kH:=ah kV
 have jK:=ah jF
 have HP:=ah hp
 have HN:=ah (show 1≤n∧n < 9 by omega)
 have mJ:=ah (And.intro hk kX)
 have pR:=ah hx
 have HG:=ah hg;have lI:=ah hs;have xN:=ah (And.intro yI yK);have HV:=ah hv;have pT:=ah hr
 clear h jF hx kX hp c01 c12 kG kJ e1 jS kV jG jB n1 n8 mW hk hg hs yI yK hr
 go_enter Tryz.func77,Tryz.ntmps77
 go_upto_region 1 with (first|refine ax rfl _ rfl rfl ?_;try rw [← kW.out]|refine bn rfl rfl ?_;try rw [← jP.out])
 try rw [← jY.out,← kH.out]
 refine uh [0,1,0,1,0,0] ?_
 have hS:Chg [] W2 W2.drew:=(Chg.refl [] W2).drew
 generalize W2.drew = W3 at hS ⊢
 have HS:=ah hS
 have hI:=HI.out W3 hS
 obtain ⟨hq,lS,hrel⟩:=hI.pr n p HP.out
 have nE:=ah hI
 have HQ:=ah hq
 have nP:=ah lS
 have jQ:=ah hrel
 obtain ⟨r0,r1,-,r3,r4,r5,r6,r7,r8,r9,-,r11,rl,-⟩:=KB.cells (kY.out W3 hS)
 rw [mJ.out.1] at r0
 rw [mJ.out.2] at r1
 have gl:=Blk.lt hq
 have ml:=Blk.lt hI.blk
 skip
 clear hS hI hq lS hrel
 have mZ:=ah (bJ HQ.out nP.out jQ.out lI.out mJ.out.1 HG.out pT.out v HV.out)
 go_wp2_with (first|refine ck (b:=b3) (x:=x) (v:=v) rfl _ rfl rfl ?_ ?_;(focus exact kY.out W3 HS.out)|refine av fun K I=>?_|refine ai fun K I=>?_;go_simp;refine I _ _ ?_;clear I K|refine ao fun K I=>?_;go_simp|refine aj ?_)
 refine mZ.out.mono ?_
 rintro e W4 ⟨⟨rfl,s',h4,hm4,hr4⟩,jT⟩
 rw [← xN.out.1]
 rw [← xN.out.1,← xN.out.2] at hr4
 have oM:=ah (nE.out.put HP.out jT h4 hm4 hr4)
 have jR:=ah jT
 clear h4 hm4 hr4 jT mZ
 go_wp2_with fail
 refine (dd E0 _).mono ?_
 rintro e W5 ⟨rfl,U⟩
 have jL:=ah U
 have oW:=ah (show Chg [gb n,gm n] W3 W5 from jR.out.stay U)
 clear U
 go_wp2_with (first|refine au (b:=b6) (x:=zRs) (v:=zV) (y:=aq E0) (u:=zV) rfl _ _ rfl rfl rfl rfl (Blk.chg (kD.out W3 HS.out) oW.out (by have h1:=HB.out;have h2:=jK.out (gb n) (.inr (.inr (.inr (.inr ⟨n,p,HP.out,.inl rfl⟩))));have h3:=jK.out (gm n) (.inr (.inr (.inr (.inr ⟨n,p,HP.out,.inr rfl⟩))));simp;omega)) ?_;intro W6 h6 iZ)
 refine bodyPost_ret (v:=.agg (rsc (aq E0) zV)) (results_cell_row (p:=6) (ty:=40) rfl _ _ b6 40 _ (0,0) _ rfl h6 Tryz.underlying40 rfl ct) rfl ?_
 by_cases h0:E0 = 0
 ·have uC:=ah (show WIn W5 m { M with pr:=upd M.pr n (some P0) } sp vo ve L E gb gm (upN gs n s') from by have h5:=oM.out.stay jL.out;rw [if_pos h0] at h5;exact h5)
  subst h0
  refine ⟨none,0,0,rfl,RE.nil ucl 1 _ none 0,fun _ hk=>(bw hk).elim,⟨sp,(upN gs n s'),?_⟩,?_⟩
  ·show WIn W6 m { M with pr:=upd M.pr n (some P0) } sp vo ve L E gb gm (upN gs n s')
   exact (uC.out).new (B:=w.heap.size) (fun k hk=>jK.out k (hk.sub (mt HP.out _))) iZ (fun y hy=>by obtain rfl:=aa hy;have:=HB.out;omega)
  ·exact (((jJ.out.stay HS.out).up [m,gb n,gm n]).trans oW.out (fun y hy=>.inl (by simp at hy;simp;omega))).trans iZ (fun y hy=>.inr (by obtain rfl:=aa hy;have:=HB.out;omega))
 ·have uC:=ah (show WIn W5 m M sp vo ve L E gb gm (upN gs n s') from by have h5:=oM.out.stay jL.out;rw [if_neg h0] at h5;exact WIn.same HP.out h5)
  refine ⟨none,0,0,rfl,RE.nil ucl 1 _ none 0,fun _ hk=>(bw hk).elim,⟨sp,(upN gs n s'),?_⟩,?_⟩
  ·show WIn W6 m (if E0 = 0 then _ else M) sp vo ve L E gb gm (upN gs n s')
   rw [if_neg h0];exact (uC.out).new (B:=w.heap.size) (fun k hk=>jK.out k hk) iZ (fun y hy=>by obtain rfl:=aa hy;have:=HB.out;omega)
  ·exact (((jJ.out.stay HS.out).up [m,gb n,gm n]).trans oW.out (fun y hy=>.inl (by simp at hy;simp;omega))).trans iZ (fun y hy=>.inr (by obtain rfl:=aa hy;have:=HB.out;omega))
end Go.Proofs.YtfoleblcaloeoaaGreatDoor
