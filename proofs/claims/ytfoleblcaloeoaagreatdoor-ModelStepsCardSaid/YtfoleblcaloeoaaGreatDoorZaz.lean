import Derived.Test.YtfoleblcaloeoaaGreatDoorZav
import Derived.Test.YtfoleblcaloeoaaGreatDoorZay
set_option maxHeartbeats 40000000
set_option maxRecDepth 20000
namespace Go.Proofs.YtfoleblcaloeoaaGreatDoor
open Go Go.RowKit
def WN (w:World) (m:Nat) (M:Mo) (O:Nat→Prop) (N:Nat):Prop :=
 ∃sp vo ve L E gb gm gs,WIn w m M sp vo ve L E gb gm gs∧(∀k,FW' M m vo ve L gb gm k→O k)∧(∀k,O k→k < w.heap.size)∧L.length≤N∧E.length≤N
theorem WN.cp {O G:Nat→Prop} {w w':World} {m:Nat} {M:Mo} {N:Nat} (h:WN w m M O N) (hc:CP G w w') (hg:∀k,O k→¬ G k):WN w' m M O N:=by obtain ⟨sp,vo,ve,L,E,gb,gm,gs,h1,h2,h3,h4⟩:=h;exact ⟨sp,vo,ve,L,E,gb,gm,gs,h1.cp hc (fun k hk=>hg k (h2 k hk)),h2,fun k hk=>al (h3 k hk) hc.size,h4⟩
variable {N m:Nat} {M:Mo} {w w':World} {O:Nat→Prop}
theorem WN.stay (h:WN w m M O N) (hc:Chg [] w w'):WN w' m M O N:=h.cp (CP.of0 (F:=fun _=>False) hc) (fun _ _ h=>h)
theorem WN.lt (h:WN w m M O N):∀k,O k→k < w.heap.size:=by obtain ⟨sp,vo,ve,L,E,gb,gm,gs,h1,h2,h3,h4⟩:=h;exact h3
theorem WN.mono {N':Nat} (h:WN w m M O N) (hN:N≤N'):WN w m M O N':=by obtain ⟨sp,vo,ve,L,E,gb,gm,gs,h1,h2,h3,h4,h5⟩:=h;exact ⟨sp,vo,ve,L,E,gb,gm,gs,h1,h2,h3,by omega,by omega⟩
variable {sp':Nat→Option Nat} {b:Nat}
theorem WIn.take {M':Mo} {vo' ve':Value} {L':List Ob} {E':List Nat} {gb' gm':Nat→Nat} {gs':Nat→Sq} {cs:Array Value} (h0:Blk w m 79 cs) (h:WIn w b M' sp' vo' ve' L' E' gb' gm' gs') (hw:WB w' m M'.c sp' vo' ve') (hc:Chg [m] w w'):WIn w' m M' sp' vo' ve' L' E' gb' gm' gs':=by
 refine ⟨hw,h.ob.chg hc (fun k hk=>?_) (fun o ho k hk=>?_),h.ev.chg hc (fun k hk=>?_),h.sp,h.rng,fun n p hp=>?_,h.ib⟩
 ·simp;exact fun e=>SE.not_blk h.ob.sl h0 (by decide) (e ▸ hk)
 ·simp;exact fun e=>SE.not_blk (h.ob.bt o ho).1 h0 (by decide) (e ▸ hk)
 ·simp;exact fun e=>SE.not_blk h.ev.sl h0 (by decide) (e ▸ hk)
 ·obtain ⟨c1,c2,c3⟩:=h.pr n p hp;exact ⟨aw c1 hc (by simp;exact Blk.ne_ c1 h0 (by decide)),c2.chg hc (by simp;exact fun e=>bj h0 c2 e.symm),c3⟩
variable {hd:Nat} {ob:Int→Option (List Nat)} {u:Value} {w2:World}
theorem OIn.push {vo vo2:Value} {L:List Ob} (h:OIn w vo L ob) {B:List Nat} (hn:ob (hd:Int) = none) (mB:hd < 18446744073709551616) (hB:∀y∈B,y < 256)
  (hc:Chg [] w w') (hu:SB w' u B) (hgu:∀k∈own u,w.heap.size≤k) (kI:Chg (own vo) w' w2) (hs:SE obl 2 92 w2 vo2 (L ++ [⟨hd,B,u⟩])):OIn w2 vo2 (L ++ [⟨hd,B,u⟩]) (upd ob (hd:Int) (some B)):=by
 have nov:∀(o:Value) (l:List Nat),SB w' o l→∀k∈own o,k∉own vo:=fun o l mP k hk mG=>by
  obtain ⟨c1,h1⟩:=Sl.blk mP hk;obtain ⟨c2,h2⟩:=Sl.blk (SE.stay h.sl hc) mG;exact Blk.ne_ h1 h2 (by decide) rfl
 have lR:=h.none_iff hn;refine ⟨hs,fun o ho=>?_,?_,?_,fun z=>?_⟩
 ·rcases List.mem_append.1 ho with ho | ho
  ·obtain ⟨b1,b2⟩:=h.bt o ho;exact ⟨SE.chg (SE.stay b1 hc) kI (nov _ _ (SE.stay b1 hc)),b2⟩
  ·obtain rfl:=aa ho;exact ⟨SE.chg hu kI (nov _ _ hu),hB,mB⟩
 ·rw [List.pairwise_append];refine ⟨h.nd,List.pairwise_singleton _ _,fun a ha o ho=>?_⟩;obtain rfl:=aa ho;exact lR a ha
 ·rw [List.pairwise_append];refine ⟨h.ap,List.pairwise_singleton _ _,fun a ha o ho k hk mG=>?_⟩;obtain rfl:=aa ho;have h1:=SE.own_lt (h.bt a ha).1 k hk;have h2:=hgu k mG;omega
 ·unfold upd;rw [List.find?_append];by_cases e:z = (hd:Int)
  ·rw [ah e,wl (fun o ho e2=>lR o ho (by omega)),List.find?_cons_of_pos]
   ·rfl
   ·simp [e]
  ·rw [ag e,h.lk];have e3:¬ ((hd:Int) = z):=fun x=>e x.symm;rw [List.find?_cons_of_neg,List.find?_nil,Option.or_none];simpa using e3
theorem EIn.push {ve ve2:Value} {E:List Nat} {ev:Int→Bool} (h:EIn w ve E ev) (mB:hd < 18446744073709551616) (hs:SW w2 ve2 (E ++ [hd])):EIn w2 ve2 (E ++ [hd]) (upd ev (hd:Int) true):=by
 refine ⟨hs,fun e he=>?_,fun z=>?_⟩
 ·rcases List.mem_append.1 he with he | he
  ·exact h.e64 e he
  ·obtain rfl:=aa he;exact mB
 ·unfold upd;rw [List.any_append];by_cases e:z = (hd:Int)
  ·rw [ah e];simp [e]
  ·rw [ag e,h.lk];have e3:¬ ((hd:Int) = z):=fun x=>e x.symm;simp [e3]
theorem jL {r:Rs}:ed r ⟨0,18446744073709551615 - r.v,[]⟩ = true→r.v < 18446744073709551616→False:=by intro h mB;rw [qh] at h;have:=congrArg Rs.v h;simp only at this;omega
variable {x:Cl}
theorem ans17 (hk:x.k = 17) (v:Nat):((cj M x 0).1.e = 0→cj M x 0 = (⟨0,0,[]⟩,none)∧cj M x v = (⟨0,min v (M.c 0).toNat,[]⟩,none))∧((cj M x 0).1.e≠0→cj M x v = cj M x 0):=by
 unfold cj;rw [ag (show ¬ x.k = 1 by omega),ag (show ¬ x.k = 10 by omega),ag (show ¬ (x.k = 11∨x.k = 12∨x.k = 13) by omega),ag (show ¬ (x.k = 19∨x.k = 20∨x.k = 21) by omega),ag (show ¬ x.k = 1 by omega),ag (show ¬ x.k = 10 by omega),ag (show ¬ (x.k = 11∨x.k = 12∨x.k = 13) by omega),ag (show ¬ (x.k = 19∨x.k = 20∨x.k = 21) by omega)];cases M.pr x.p with
 | none=>exact ⟨fun h=>absurd (show (7:Int) = 0 from h) (by decide),fun _=>rfl⟩
 | some p =>
  have e:∀v,dc M x v p = if Ar.mdE p.rl x.g (max x.c 1)≠0 then (bw 7,none) else (⟨0,min v (M.c 0).toNat,[]⟩,none):=fun v=>by
   unfold dc;rw [ag (by omega),ag (by omega),ag (by omega),ag (by omega),ag (by omega)];split
   ·rfl
   ·first | rfl | rw [ah hk]
  simp only [e];split
  ·exact ⟨fun h=>absurd (show (7:Int) = 0 from h) (by decide),fun _=>rfl⟩
  ·exact ⟨fun _=>⟨by rw [Nat.zero_min],rfl⟩,fun h=>absurd rfl h⟩
theorem XB.set_v {x:Rs} (h:XB w b x u) (z:Nat):XB (w.setCell ⟨b,1,none⟩ (.int .u64 z)) b ⟨x.e,z,x.l⟩ u:=Blk.set_ h 1 (.int .u64 z)
theorem SW_one (w:World) (z:Nat):RE wcl 1 (w.alloc (.cells #[.int .u64 z] 37)) (.slice (some ⟨w.heap.size,0,none⟩) 1 1) [z]:=ur w 37 1 1 [.int .u64 z] rfl
section
variable {w w1:World} {b:Nat} {M:Mo} {sp:Nat→Option Nat} {vo ve:Value} {L:List Ob} {E:List Nat} {gb gm:Nat→Nat} {gs:Nat→Sq}
theorem SE.not_se {α β:Type} {enc:α→List Value} {enc':β→List Value} {size size':Nat} {e e':TypeId} {w:World} {v v':Value} {l:List α} {l':List β} (h:SE enc size e w v l) (h':SE enc' size' e' w v' l') (kT:e≠e'):∀k∈own v,k∉own v':=fun k hk mG=>by
 obtain ⟨c1,h1⟩:=Sl.blk h hk
 obtain ⟨c2,h2⟩:=Sl.blk h' mG
 exact Blk.ne_ h1 h2 kT rfl
theorem WIn.pushE (h:WIn w b M sp vo ve L E gb gm gs) {hd:Nat} (mB:hd < 18446744073709551616) (hc:Chg (own ve) w w1) {ve2:Value} (hs:SW w1 ve2 (E ++ [hd])):WIn (w1.setCell ⟨b,104,none⟩ ve2) b { M with ev:=upd M.ev (hd:Int) true } sp vo ve2 L (E ++ [hd]) gb gm gs:=by have lH:WB w1 b M.c sp vo ve:=aw h.blk hc (fun hk=>SE.not_blk h.ev.sl h.blk (by decide) hk);have kI:Chg [b] w1 (w1.setCell ⟨b,104,none⟩ ve2):=(av [b] w1).setCell (p:=⟨b,104,none⟩) (.inl (by simp)) _;have pG:SW (w1.setCell ⟨b,104,none⟩ ve2) ve2 (E ++ [hd]):=SE.chg hs kI (fun k hk=>by simp;exact fun e=>SE.not_blk hs lH (by decide) (e ▸ hk));have FE:=h.ob.chg hc (fun k hk mG=>SE.not_se h.ob.sl h.ev.sl (by decide) k hk mG) (fun o ho k hk mG=>SE.not_se (h.ob.bt o ho).1 h.ev.sl (by decide) k hk mG);refine ⟨WB.set_ve lH ve2,FE.chg kI (fun k hk=>by simp;exact fun e=>SE.not_blk FE.sl lH (by decide) (e ▸ hk)) (fun o ho k hk=>by simp;exact fun e=>SE.not_blk (FE.bt o ho).1 lH (by decide) (e ▸ hk)),h.ev.push mB pG,h.sp,h.rng,fun n p hp=>?_,h.ib⟩;obtain ⟨c1,c2,c3⟩:=h.pr n p hp;have d1:=aw c1 hc (fun hk=>SE.not_blk h.ev.sl c1 (by decide) hk);have d2:=c2.chg hc (fun hk=>SE.not_map h.ev.sl c2 hk);exact ⟨aw d1 kI (by simp;exact fun e=>Blk.ne_ lH d1 (by decide) e.symm),d2.chg kI (by simp;exact fun e=>bj lH d2 e.symm),c3⟩
theorem WIn.pushO {w2:World} (h:WIn w b M sp vo ve L E gb gm gs) {hd:Nat} {B:List Nat} (hn:M.ob (hd:Int) = none) (mB:hd < 18446744073709551616) (hB:∀y∈B,y < 256) (hc:Chg [] w w1) {u vo2:Value} (hu:SB w1 u B) (hgu:∀k∈own u,w.heap.size≤k) (kO:Chg (own vo) w1 w2) (hs:SE obl 2 92 w2 vo2 (L ++ [⟨hd,B,u⟩])) :
  WIn (w2.setCell ⟨b,103,none⟩ vo2) b { M with ob:=upd M.ob (hd:Int) (some B) } sp vo2 ve (L ++ [⟨hd,B,u⟩]) E gb gm gs:=by
 have h1:=h.stay hc;have lH:WB w2 b M.c sp vo ve:=aw h1.blk kO (fun hk=>SE.not_blk h1.ob.sl h1.blk (by decide) hk);have kI:Chg [b] w2 (w2.setCell ⟨b,103,none⟩ vo2):=(av [b] w2).setCell (p:=⟨b,103,none⟩) (.inl (by simp)) _;have FF:=h.ob.push hn mB hB hc hu hgu kO hs;have Ia:=h1.ev.chg kO (fun k hk mG=>SE.not_se h1.ev.sl h1.ob.sl (by decide) k hk mG);refine ⟨WB.set_vo lH vo2,FF.chg kI (fun k hk=>by simp;exact fun e=>SE.not_blk FF.sl lH (by decide) (e ▸ hk)) (fun o ho k hk=>by simp;exact fun e=>SE.not_blk (FF.bt o ho).1 lH (by decide) (e ▸ hk)),Ia.chg kI (fun k hk=>by simp;exact fun e=>SE.not_blk Ia.sl lH (by decide) (e ▸ hk)),h.sp,h.rng,fun n p hp=>?_,h.ib⟩;obtain ⟨c1,c2,c3⟩:=h1.pr n p hp;have d1:=aw c1 kO (fun hk=>SE.not_blk h1.ob.sl c1 (by decide) hk);have d2:=c2.chg kO (fun hk=>SE.not_map h1.ob.sl c2 hk);exact ⟨aw d1 kI (by simp;exact fun e=>Blk.ne_ lH d1 (by decide) e.symm),d2.chg kI (by simp;exact fun e=>bj lH d2 e.symm),c3⟩
end
variable {v:Value}
theorem jU (h:WN w m M O N) (hN:N≤400000) (oV:MoOk M) (Bz:EvOk M) {r:Rs} (hx:x.Ok) (hv:RB w v x.l) (hr:r.Ok) (hu:RB w u r.l) :
  Calls Tryz.prog 12 #[.pointer (some ⟨m,0,none⟩),.agg (clc x v),.agg (rsc r u)] w fun e w'=>e = .returned (.bool (jn M x r))∧CP O w w'∧∃O',WN w' m (ie M x r) O' (N+1)∧∀k,O' k→O k∨w.heap.size≤k:=by
 have pL:x.l≠[]→∀k∈own v,k < w.heap.size:=fun hl=>RB.own_lt hv hl;obtain ⟨A0,c0,rfl⟩:=RE.form hv;obtain ⟨A1,c1,rfl⟩:=RE.form hu;have HM:=bk h;obtain ⟨sp,vo,ve,L,E,gb,gm,gs,hI,hO,hl,Cg,hEN⟩:=h;obtain ⟨W2,kJ⟩:∃W2,W2 = (w.alloc (.cells (clc x (.slice A0 x.l.length c0)) 47)).alloc (.cells (rsc r (.slice A1 r.l.length c1)) 40):=⟨_,rfl⟩;have kI:Chg [] w W2:=by rw [kJ];exact ((av [] w).alloc _).alloc _
 have lZ:KB W2 w.heap.size x (.slice A0 x.l.length c0):=by rw [kJ];exact (ax w _ _).alloc _
 have qQ:XB W2 (w.heap.size+1) r (.slice A1 r.l.length c1):=by
  have:=ax (w.alloc (.cells (clc x (.slice A0 x.l.length c0)) 47)) 40 (rsc r (.slice A1 r.l.length c1));rw [af] at this;rw [kJ];exact this
 obtain ⟨b4,e4⟩:∃b,b = w.heap.size:=⟨_,rfl⟩;obtain ⟨b5,e5⟩:∃b,b = w.heap.size+1:=⟨_,rfl⟩;rw [← e5] at qQ;rw [← e4] at lZ;have HE:=bk (ai e4 e5);have HI:=bk (fun W (h:Chg [] W2 W)=>hI.stay (kI.stay h));have lG:=bk (fun W (h:Chg [] W2 W)=>bh lZ h);have oB:=bk (fun W (h:Chg [] W2 W)=>bf qQ h);have lE:=bk kI;have kW:=bk kJ;have HV:=bk (fun W (h:Chg [] W2 W)=>RE.stay hv (kI.stay h));have HU:=bk (fun W (h:Chg [] W2 W)=>RE.stay hu (kI.stay h));have HX:=bk hx;have xC:=bk hr;have Ah:=bk pL;have tA:=bk oV;have Bp:=bk Bz;have Bs:=bk (ai hO hl);have qK:=bk (show L.length≤N∧E.length≤N∧N≤400000 from ⟨Cg,hEN,hN⟩);have EVE:=bk (fun e=>br_e e);have nE:=bk (show ∀W,Chg [] W2 W→CP O w W∧∃O',WN W m M O' (N+1)∧∀k,O' k→O k∨w.heap.size≤k from fun W hW=>⟨CP.of0 (kI.stay hW),O,(HM.out.stay (kI.stay hW)).mono (Nat.le_succ N),fun k hk=>.inl hk⟩);clear hI hO hl hv hu hx hr lZ qQ kI kJ e4 e5 pL oV Bz Cg hEN hN;obtain ⟨SB,DZ⟩:∃b,b = jn M x r:=⟨_,rfl⟩;obtain ⟨SM,Ea⟩:∃N,N = ie M x r:=⟨_,rfl⟩;rw [← DZ,← Ea];have sE:=bk DZ;have uA:=bk Ea;clear DZ Ea;have uH:=fun W (h:Chg [] W2 W)=>vq (w:=W) M.c HX.out (HV.out W h);rw [← eM M.c HX.out] at uH;have vZ:=bk uH;clear uH;go_enter Tryz.func12,Tryz.ntmps12;go_upto_region 1 with (first|refine cc rfl _ rfl rfl ?_;try simp only [af]|refine gd rfl _ rfl rfl ?_;try simp only [af];try rw [← kW.out])
 rw [← HE.out.2,← HE.out.1];cases hw:dr M.c x with
 | true =>
  have e1:SB = ed r (bw 2):=by rw [sE.out];unfold jn;rw [ah hw]
  have e2:SM = M:=by rw [uA.out];unfold ie;rw [ah (.inl hw)]
  subst e1 e2;rw [hw] at vZ;clear hw;refine rgt [0,0,0,5,5,3] [none,none,none,none,none,none] (fun W=>Chg [] W2 W) ?_;have hS:Chg [] W2 W2.drew:=(av [] W2).drew;have lm:=bb (HI.out _ hS).blk;generalize W2.drew = W0 at hS lm ⊢;go_upto_region 2 with (first|refine ca 26 _ rfl rfl (fun w' kK=>WB.load26 (HI.out w' kK).blk) hS ?_|refine ca 47 _ rfl rfl (fun w' kK=>KB.load (lG.out w' kK)) hS ?_|refine dy fun K U=>?_;go_simp;refine (vZ.out W0 hS).mono ?_;rintro e W3 ⟨rfl,kM⟩;refine U _ _ ?_;clear U K;have kL:=bk (hS.stay kM);clear kM hS lm|refine cdA fun K U=>?_|refine bn fun K U=>?_;go_simp|refine bq ?_)
  obtain ⟨c0',-,-,-,-,-,s6,-,-,-,-,-,l4,-⟩:=ay (lG.out W3 kL.out);obtain ⟨p0,p1,-,l5,-⟩:=XB.cells (oB.out W3 kL.out);clear c0' s6 l4 p0 p1 l5;go_wp2_with (first|refine ef (b:=b5) rfl _ rfl rfl (oB.out W3 kL.out) ?_|refine cz rfl _ rfl (EVE.out 2) ?_ ?_;(focus (simp [Act.eval];done)));refine (kl (y:=bw 2) (HU.out W3 kL.out) (RE.nil ucl 1 _ none 0) xC.out.l (fun _ h=>by cases h)).mono ?_;rintro e W6 ⟨rfl,kF⟩;have mA:=bk (kL.out.stay kF);clear kF;go_wp2_with fail;go_ret;exact ⟨rfl,nE.out _ mA.out⟩
 | false =>
  have nY:=bk hw;rw [hw] at vZ;clear hw;refine rgt [0,0,0,5,5,3] [none,none,none,none,none,none] (fun W=>Chg [] W2 W) ?_;have hS:Chg [] W2 W2.drew:=(av [] W2).drew;have lm:=bb (HI.out _ hS).blk;generalize W2.drew = W0 at hS lm ⊢;go_upto_region 3 with (first|refine ca 26 _ rfl rfl (fun w' kK=>WB.load26 (HI.out w' kK).blk) hS ?_|refine ca 47 _ rfl rfl (fun w' kK=>KB.load (lG.out w' kK)) hS ?_|refine dy fun K U=>?_;go_simp;refine (vZ.out W0 hS).mono ?_;rintro e W3 ⟨rfl,kM⟩;refine U _ _ ?_;clear U K;have kL:=bk (hS.stay kM);clear kM hS lm|refine cdA fun K U=>?_|refine bn fun K U=>?_;go_simp|refine bq ?_)
  obtain ⟨c0',-,-,-,-,-,s6,-,-,-,-,-,l4,-⟩:=ay (lG.out W3 kL.out);obtain ⟨p0,p1,-,l5,-⟩:=XB.cells (oB.out W3 kL.out);go_wp2_with fail;refine (jV x.k r.e W3).mono ?_;rintro e W3' ⟨rfl,rfl⟩;cases vM:gi x.k r.e with
  | true =>
   have e1:SB = ed r (bw r.e):=(by rw [sE.out];unfold jn;rw [ag (by rw [nY.out];decide),ah vM]);have e2:SM = M:=(by rw [uA.out];unfold ie;rw [ah (.inr (.inl vM))]);subst e1 e2;clear vM c0' s6 l4 p1;go_wp2_with (first|refine ef (b:=b5) rfl _ rfl rfl (oB.out W3 kL.out) ?_|refine cz rfl _ rfl (EVE.out r.e) ?_ ?_;(focus (simp [Act.eval,Act.put];done)));refine (kl (y:=bw r.e) (HU.out W3 kL.out) (RE.nil ucl 1 _ none 0) xC.out.l (fun _ h=>by cases h)).mono ?_;rintro e W6 ⟨rfl,kF⟩;have mA:=bk (kL.out.stay kF);clear kF;go_wp2_with fail;go_ret;exact ⟨rfl,nE.out _ mA.out⟩
  | false =>
   have ebN:=show SB = ed r (cj M x r.v).1 by rw [sE.out];unfold jn;rw [ag (by rw [nY.out];decide),ag (by rw [vM];decide)]
   have emN:=show SM = if ed r (cj M x r.v).1 = true∧r.e = 0 then ((cj M x r.v).2).getD M else M by
    rw [uA.out];unfold ie;by_cases h1:ed r (cj M x r.v).1 = true
    ·by_cases h2:r.e = 0
     ·rw [ag,ah ⟨h1,h2⟩];rintro (h | h | h | h)
      ·rw [nY.out] at h;cases h
      ·rw [vM] at h;cases h
      ·rw [h1] at h;cases h
      ·exact h h2
     ·rw [ah (.inr (.inr (.inr h2))),ag (fun h=>h2 h.2)]
    ·rw [ah (.inr (.inr (.inl (by simpa using h1)))),ag (fun h=>h1 h.1)]
   have xU:=bk (ai ebN emN);clear vM ebN emN;go_wp2_with fail;refine (se (HI.out W3 kL.out) tA.out (by have:=qK.out;omega) (by have:=qK.out;omega)).mono ?_;rintro e W4 ⟨⟨b7,sp7,vo7,ve7,L7,g7,m7,rfl,hI7,hl7,hF7⟩,kZ⟩;have zS:=bk kZ;have lA:=bk (kL.out.stay kZ);have HI7:=bk hI7;have Gm:=bk hF7;have DE:=bk hl7;have zO:=bk (show b4 < W3.heap.size∧b5 < W3.heap.size from ⟨l4,l5⟩);have HM3:=bk (show m < W3.heap.size from bb (HI.out W3 kL.out).blk);clear kZ hI7 hF7 hl7 c0' s6 l4 p0 p1 l5;go_wp2_with (first|refine dk (b:=b4) (x:=x) (v:=.slice A0 x.l.length c0) rfl _ rfl rfl (lG.out W4 lA.out) ?_);refine (bD HI7.out (fun k hk=>(Gm.out k hk).2) HX.out tA.out (by have h1:=qK.out;have h2:=DE.out;omega) nY.out (.slice A0 x.l.length c0) rfl (HV.out W4 lA.out) (fun kT k hk hf=>by have h1:=Ah.out kT k hk;have h2:=(Gm.out k hf).1;have h3:=(lE.out.stay kL.out).size;omega)).mono ?_;rintro e W5 ⟨A5,k5,c5,rfl,pZ,pC,nN,sp8,vo8,L8,gb8,gm8,gs8,hI8,tD,hF8⟩;have Ek:Chg [] W3 W5:=by
    obtain ⟨G,DT,DU⟩:=nN;refine zS.out.trans DT (fun y hy=>.inr ?_);rcases DU y hy with h | h
    ·exact (Gm.out y h).1
    ·exact au zS.out.size h
   obtain ⟨RR,lJ⟩:∃R,R = doA M x:=⟨_,rfl⟩;rw [← lJ] at pZ hI8 hF8;rw [← lJ];obtain ⟨N8,hN8⟩:∃N8,N8 = if RR.1.e = 0 then RR.2.getD M else M:=⟨_,rfl⟩
   rw [← hN8] at hI8 hF8;have kH:=bk lJ;have CR:=bk hN8;have BU:=bk pZ;have HI8:=bk hI8;have HL8:=bk (show L8.length≤N from by have h1:=qK.out;have h2:=DE.out;omega);have CM:=bk (show ∀k,FW' N8 b7 vo8 ve7 L8 gb8 gm8 k→W3.heap.size≤k∧k < W5.heap.size from fun k hk=>by
    rcases hF8 k hk with ⟨h1,h2⟩ | ⟨h1,h2⟩
    ·exact ⟨(Gm.out k h1).1,h2⟩
    ·exact ⟨au zS.out.size h1,h2⟩)
   have kV:=bk Ek;have kU:=bk (kL.out.stay Ek);have HGO:=bk (show ∀i∈own (.slice A5 k5 c5),W3.heap.size≤i from fun i hi=>au zS.out.size (pC i hi));have HYB:=bk (show ∀b∈RR.1.l,b < 256 from by
    rw [lJ];unfold doA
    split
    ·intro b hb;cases hb
    ·exact tA.out.ans_l x 0)
   clear pZ pC nN hI8 tD hF8 Ek lJ hN8 HI7 Gm DE;go_upto_region 7 with (first|refine ck rfl rfl ?_;try go_simp|refine bu (b:=W5.heap.size) (y:=RR.1) (u:=.slice A5 k5 c5) rfl _ _ rfl rfl rfl rfl (ax W5 _ _) ?_;intro W6 h6 kF;have H6:=bk h6;have pP:=bk (wo kF);clear h6 kF)
   obtain ⟨b8,yG⟩:∃y,y = W5.heap.size:=⟨_,rfl⟩;rw [← yG] at H6 ⊢;have zN:=bk yG;clear yG;have mA:=bk (kU.out.stay pP.out);obtain ⟨q0,q1,-,ql,qf⟩:=XB.cells H6.out;obtain ⟨c0',-,-,-,-,-,s6,-,-,-,-,-,l4,-⟩:=ay (lG.out W6 mA.out);obtain ⟨-,p1,-,l5,-⟩:=XB.cells (oB.out W6 mA.out);have qf1:=qf 1;clear qf;have HI86:=bk (HI8.out.stay pP.out);have HF86:=bk (show ∀k,FW' N8 b7 vo8 ve7 L8 gb8 gm8 k→w.heap.size≤k∧k < W6.heap.size from fun k hk=>by have h1:=CM.out k hk;have h2:=pP.out.size;have h3:=(lE.out.stay kL.out).size;omega);by_cases lN:RR.1.e = 0∧(x.k = 10∨x.k = 17)
   case neg =>
    have At:=bk H6.out;have Fn:=bk (BU.out.stay pP.out);have DR:=HYB;have mD:cj M x r.v = RR:=by
     rw [kH.out];unfold doA;by_cases mX:x.k = 10
     ·exfalso;refine lN ⟨?_,.inl mX⟩;rw [kH.out];unfold doA;rw [ah mX];rfl
     ·rw [ag mX];by_cases yZ:x.k = 17
      ·refine (ans17 yZ r.v).2 (fun h0=>lN ⟨?_,.inr yZ⟩);rw [kH.out];unfold doA;rw [ag mX];exact h0
      ·exact ans_v mX yZ _
    have oZ:=bk (show (ed r RR.1 = true→SB = true∧SM = N8)∧(ed r RR.1 = false→SB = false∧SM = M) from by
     rw [xU.out.1,xU.out.2,mD]
     refine ⟨fun h=>⟨h,?_⟩,fun h=>⟨h,by rw [h];rfl⟩⟩
     have he:r.e = RR.1.e:=congrArg Rs.e ((qh _ _).1 h)
     rw [CR.out,h,he]
     by_cases h0:RR.1.e = 0
     ·rw [ah ⟨rfl,h0⟩,ah h0]
     ·rw [ag (fun h=>h0 h.2),ag h0])
    have tX:=HI86;have Dy:=HF86;have zZ:=bk (show L8.length≤N+1∧E.length≤N+1 from by have h1:=HL8.out;have h2:=qK.out;omega);obtain ⟨YY,Ft⟩:∃Y,Y = RR.1:=⟨_,rfl⟩;rw [← Ft] at At Fn DR oZ H6 q0;obtain ⟨ze,hze⟩:∃z:Int,z = YY.e:=⟨_,rfl⟩;rw [← hze] at q0;have HZE:=bk (ai Ft hze);by_cases h0:ze = 0
    ·subst h0;have hk:x.k≠10∧x.k≠17:=⟨fun h=>lN ⟨by rw [← Ft];omega,.inl h⟩,fun h=>lN ⟨by rw [← Ft];omega,.inr h⟩⟩;have uK:=bk (td x.k W6);rw [show (x.k == 10 || x.k == 17) = false from by simp [hk.1,hk.2]] at uK;clear lN mD Ft hze hk;go_wp2_with fail;refine uK.out.mono ?_;rintro e W6' ⟨rfl,rfl⟩;go_upto_region 14 with (fail)
     go_wp2_with (first|refine ef (b:=b5) (x:=r) (v:=.slice A1 r.l.length c1) rfl _ rfl rfl (oB.out W6 mA.out) ?_|refine ef (b:=b8) (x:=YY) (v:=.slice A5 k5 c5) rfl _ rfl rfl At.out ?_);refine (kl (HU.out W6 mA.out) Fn.out xC.out.l DR.out).mono ?_;rintro e Wd ⟨rfl,wI⟩;have oM:=bk wI;clear wI;cases pV:ed r YY with
     | false =>
      obtain ⟨rfl,rfl⟩:=oZ.out.2 pV;clear pV;go_wp2_with fail;go_ret;exact ⟨rfl,nE.out _ (mA.out.stay oM.out)⟩
     | true =>
      obtain ⟨rfl,sA⟩:=oZ.out.1 pV;have DJ:=bk sA;clear pV sA;have rN:=bk (tX.out.stay oM.out);have pI:=bk (ai (SO.one tX.out.ob.sl) (SW.one tX.out.ev.sl));go_wp2_with (first|refine kz (b:=b7) (c:=N8.c) (sp:=sp8) (vo:=vo8) (ve:=ve7) rfl _ rfl rfl rN.out.blk ?_|refine ke (b:=m) (c:=N8.c) (sp:=sp8) (vo:=vo8) (ve:=ve7) rfl _ _ rfl rfl rfl pI.out.1 pI.out.2 (HI.out Wd (mA.out.stay oM.out)).blk ?_;intro We he AF;have BN:=bk he;have qV:=bk AF;clear he AF);go_ret;refine ⟨rfl,?_⟩;rw [DJ.out];have hI:=WIn.take (HI.out Wd (mA.out.stay oM.out)).blk rN.out BN.out qV.out;have IM:=oM.out.size;have Dh:=qV.out.size;have Di:=(lE.out.stay mA.out).size;have wE:O m:=Bs.out.1 m (.inl rfl);have sX:=Bs.out.2 m wE;have mO:Chg [m] w We:=((lE.out.stay (mA.out.stay oM.out)).up [m]).and_ qV.out;have mQ:∀k,FW' N8 m vo8 ve7 L8 gb8 gm8 k→(k = m∨w.heap.size≤k)∧k < We.heap.size:=fun k hk=>by
       rcases hk with h | h
       ·exact ⟨.inl h,by omega⟩
       ·have:=Dy.out k (.inr h);exact ⟨.inr this.1,by omega⟩
      refine ⟨CP.of mO (fun y hy=>.inl (by obtain rfl:=aa hy;exact wE)),fun k=>FW' N8 m vo8 ve7 L8 gb8 gm8 k,⟨_,_,_,_,_,_,_,_,hI,fun k hk=>hk,fun k hk=>(mQ k hk).2,zZ.out.1,zZ.out.2⟩,fun k hk=>?_⟩;rcases (mQ k hk).1 with h | h
      ·exact .inl (h ▸ wE)
      ·exact .inr h
    ·have d0:(ze == 0) = false:=aj h0;clear lN mD Ft hze h0;go_upto_region 14 with (fail)
     go_wp2_with (first|refine ef (b:=b5) (x:=r) (v:=.slice A1 r.l.length c1) rfl _ rfl rfl (oB.out W6 mA.out) ?_|refine ef (b:=b8) (x:=YY) (v:=.slice A5 k5 c5) rfl _ rfl rfl At.out ?_);refine (kl (HU.out W6 mA.out) Fn.out xC.out.l DR.out).mono ?_;rintro e Wd ⟨rfl,wI⟩;have oM:=bk wI;clear wI;cases pV:ed r YY with
     | false =>
      obtain ⟨rfl,rfl⟩:=oZ.out.2 pV;clear pV;go_wp2_with fail;go_ret;exact ⟨rfl,nE.out _ (mA.out.stay oM.out)⟩
     | true =>
      obtain ⟨rfl,sA⟩:=oZ.out.1 pV;have DJ:=bk sA;clear pV sA;have rN:=bk (tX.out.stay oM.out);have pI:=bk (ai (SO.one tX.out.ob.sl) (SW.one tX.out.ev.sl));go_wp2_with (first|refine kz (b:=b7) (c:=N8.c) (sp:=sp8) (vo:=vo8) (ve:=ve7) rfl _ rfl rfl rN.out.blk ?_|refine ke (b:=m) (c:=N8.c) (sp:=sp8) (vo:=vo8) (ve:=ve7) rfl _ _ rfl rfl rfl pI.out.1 pI.out.2 (HI.out Wd (mA.out.stay oM.out)).blk ?_;intro We he AF;have BN:=bk he;have qV:=bk AF;clear he AF);go_ret;refine ⟨rfl,?_⟩;rw [DJ.out];have hI:=WIn.take (HI.out Wd (mA.out.stay oM.out)).blk rN.out BN.out qV.out;have IM:=oM.out.size;have Dh:=qV.out.size;have Di:=(lE.out.stay mA.out).size;have wE:O m:=Bs.out.1 m (.inl rfl);have sX:=Bs.out.2 m wE;have mO:Chg [m] w We:=((lE.out.stay (mA.out.stay oM.out)).up [m]).and_ qV.out;have mQ:∀k,FW' N8 m vo8 ve7 L8 gb8 gm8 k→(k = m∨w.heap.size≤k)∧k < We.heap.size:=fun k hk=>by
       rcases hk with h | h
       ·exact ⟨.inl h,by omega⟩
       ·have:=Dy.out k (.inr h);exact ⟨.inr this.1,by omega⟩
      refine ⟨CP.of mO (fun y hy=>.inl (by obtain rfl:=aa hy;exact wE)),fun k=>FW' N8 m vo8 ve7 L8 gb8 gm8 k,⟨_,_,_,_,_,_,_,_,hI,fun k hk=>hk,fun k hk=>(mQ k hk).2,zZ.out.1,zZ.out.2⟩,fun k hk=>?_⟩;rcases (mQ k hk).1 with h | h
      ·exact .inl (h ▸ wE)
      ·exact .inr h
   obtain ⟨h0,mX | yZ⟩:=lN
   ·have hR10:RR = (bw 0,none):=(by rw [kH.out];unfold doA;rw [ah mX]);subst hR10;have uK:=bk (td 10 W6);rw [show ((10:Nat) == 10 || (10:Nat) == 17) = true from rfl] at uK;have HK:=bk mX;have mD:cj M x r.v = jg M x.s r.v:=(by unfold cj;rw [ag (by omega),ah mX]);have nR:=bk mD;rw [HK.out] at c0';obtain ⟨vv,EN⟩:∃vv:Nat,vv = r.v:=⟨_,rfl⟩;rw [← EN] at p1;have yY:=bk EN;clear h0 mX mD EN;go_wp2_with fail;refine uK.out.mono ?_;rintro e W6' ⟨rfl,rfl⟩;go_upto_region 9 with (fail)
    have EP:=XB.set_v H6.out vv;have lC:Chg [b8] W6 (W6.setCell ⟨b8,1,none⟩ (.int .u64 vv)):=(av [b8] W6).setCell (p:=⟨b8,1,none⟩) (.inl (by simp)) _;clear c0' s6 l4 p1 l5 q0 q1 ql qf1;generalize W6.setCell ⟨b8,1,none⟩ (.int .u64 vv) = W7 at EP lC ⊢;refine rgt [0,1,0,0,0,1,0,0,0,0,1,0,0,0,0,0,1,0,0,0,1,0,0,0,0,1,3,0,0,0] [none,none,none,none,some (47,true),some (47,true),some (47,true),some (47,true),some (47,true),some (47,true),some (47,true),some (47,true),some (47,true),none,none,some (58,false),some (58,false),some (58,false),some (58,false),some (62,true),some (62,true),some (62,true),some (62,true),some (66,false),some (66,false),some (66,false),some (66,false),some (62,true),some (58,false),none] (fun _=>True) ?_;have Bh:=Blk.drew EP;have oE:=lC.drew;generalize W7.drew = W8 at Bh oE ⊢;have pH:=bk (show Chg [] W5 W8 from pP.out.trans oE (fun y hy=>.inr (by obtain rfl:=aa hy;exact Nat.le_of_eq zN.out.symm)));have mR:=bk (kU.out.stay pH.out);have At:=bk Bh;have Fn:=bk (BU.out.stay pH.out);clear EP lC Bh oE;obtain ⟨r0,-,-,-,-,-,r6,-,-,-,-,-,l4,-⟩:=ay (lG.out W8 mR.out);rw [HK.out] at r0;obtain ⟨-,p1,-,l5,-⟩:=XB.cells (oB.out W8 mR.out);rw [← yY.out] at p1;have lm:=bb (HI.out W8 mR.out).blk;by_cases hbad:vv = 0∨M.ev vv = true
    ·have oZ:=bk (show SB = false∧SM = M from by
      have e0:ed r (cj M x r.v).1 = false:=by
       rw [nR.out];unfold jg
       rw [ah (by rw [← yY.out];exact hbad)]
       cases hs:ed r ⟨0,18446744073709551615 - r.v,[]⟩ with
       | false=>rfl
       | true=>exact (jL hs xC.out.v).elim
      rw [xU.out.1,xU.out.2,e0]
      exact ⟨rfl,ag (fun h=>by cases h.1)⟩)
     by_cases hz:vv = 0
     ·subst hz;clear hbad;go_upto_region 10 with (first|refine fj ?_ ?_;(focus (simp [gf,undef];done));go_simp|refine dy fun K U=>?_;go_simp;refine (rf (HI.out W8 mR.out) vv).mono ?_;rintro e W8' ⟨rfl,rfl⟩;refine U _ _ ?_;clear U K|refine cdA fun K U=>?_|refine cx ?_;go_simp|refine cy ?_|refine bn fun K U=>?_;go_simp|refine bq ?_)
      obtain ⟨rfl,rfl⟩:=oZ.out;go_wp2_with fail;go_ret;exact ⟨rfl,nE.out _ mR.out⟩
     ·have d0:((vv:Int) == 0) = false:=aj (by omega);have Bz:M.ev vv = true:=hbad.resolve_left hz;have HZ:=bk hz;clear hbad hz;go_upto_region 10 with (first|refine fj ?_ ?_;(focus (simp [gf,undef];done));go_simp|refine dy fun K U=>?_;go_simp;refine (rf (HI.out W8 mR.out) vv).mono ?_;rintro e W8' ⟨rfl,rfl⟩;refine U _ _ ?_;clear U K|refine cdA fun K U=>?_|refine cx ?_;go_simp|refine cy ?_|refine bn fun K U=>?_;go_simp|refine bq ?_)
      obtain ⟨rfl,rfl⟩:=oZ.out;go_wp2_with fail;go_ret;exact ⟨rfl,nE.out _ mR.out⟩
    ·have hz:vv≠0:=fun h=>hbad (.inl h);have Bz:M.ev vv = false:=(by cases h:M.ev vv with | false=>rfl | true=>exact absurd (.inr h) hbad);have d0:((vv:Int) == 0) = false:=aj (by omega);obtain ⟨S0,AB,mE⟩:∃S0:Nat,x.s = S0∧S0≤128:=(by have h1:=aJ nY.out HK.out;exact ⟨x.s.toNat,by omega,by omega⟩);obtain ⟨N9,hN9⟩:∃N9,N9 = { M with ob:=upd M.ob (vv:Int) (some (List.replicate S0 0)),ev:=upd M.ev (vv:Int) true }:=⟨_,rfl⟩;have oZ:=bk (show (ed r ⟨0,vv,[]⟩ = true→SB = true∧SM = N9)∧(ed r ⟨0,vv,[]⟩ = false→SB = false∧SM = M) from by
      have e0:cj M x r.v = (⟨0,vv,[]⟩,some N9):=by
       rw [nR.out];unfold jg
       rw [ag (by rw [← yY.out];exact hbad),← yY.out,hN9,AB,Int.toNat_natCast]
      rw [xU.out.1,xU.out.2,e0]
      refine ⟨fun h=>⟨h,?_⟩,fun h=>⟨h,by rw [h];rfl⟩⟩
      have he:r.e = 0:=congrArg Rs.e ((qh _ _).1 h)
      rw [ah ⟨h,he⟩]
      rfl)
     have Gy:=bk hN9;have HEV2:=bk Bz;have uB:=bk (ai AB mE);have Ad:=bk (show N8 = M from by rw [CR.out];rfl);have HZ:=bk hz;have FO:∃A c,ve7 = .slice A E.length c:=SE.form HI8.out.ev.sl;clear hbad hz hN9 AB mE;go_upto_region 11 with (first|refine fj ?_ ?_;(focus (simp [gf,undef];done));go_simp|refine dy fun K U=>?_;go_simp;refine (rf (HI.out W8 mR.out) vv).mono ?_;rintro e W8' ⟨rfl,rfl⟩;refine U _ _ ?_;clear U K|refine cdA fun K U=>?_|refine cx ?_;go_simp|refine cy ?_|refine bn fun K U=>?_;go_simp|refine bq ?_)
     clear d0 Bz;go_upto_region 12 with (fail)
     clear r0 r6 l4 p1 l5 lm;obtain ⟨Ae,ce,rfl⟩:=FO;refine eu [0,0,0,0,1,0,1,2,3,0,0,3] ?_;have hS:Chg [] W8 W8.drew:=(av [] W8).drew;generalize W8.drew = W9 at hS ⊢;have tX:=bk (HI8.out.stay (pH.out.stay hS));have mM:=bk (mR.out.stay hS);have HX9:=bk (bf At.out hS);have HC89:=bk hS;have Ge:=bk (pH.out.stay hS);obtain ⟨-,p1,-,l5,-⟩:=XB.cells (oB.out W9 mM.out);rw [← yY.out] at p1;have q7:=WB.vec tX.out.blk;have l7:=bb tX.out.blk;have BX:=bk (SW_one W9 vv);have nP:Chg [] W9 (W9.alloc (.cells #[.int .u64 vv] 37)):=(av [] W9).alloc _;have Fe:=bk (tX.out.stay nP);have pQ:=bk nP;have HLE2:=bk (show E.length + [vv].length≤1000000 from by have:=qK.out;simp;omega);clear nP hS;go_upto_region 13 with (first|refine dy fun K U=>?_;refine eK _ _ rfl (.slice Ae E.length ce) (.slice (some ⟨W9.heap.size,0,none⟩) 1 1) rfl rfl Fe.out.ev.sl BX.out HLE2.out ?_;intro A9 n9 c9 Wa hna EG nP xJ;have HSB9:=bk EG;have qU:=bk nP;have zX:=bk xJ;have CI:=aw Fe.out.blk nP (fun hk=>SE.not_blk Fe.out.ev.sl Fe.out.blk (by decide) hk);have qa:=WB.vec CI;have la:=bb CI;have fa:=Blk.frozen CI 104;clear hna EG nP xJ CI;refine U _ _ ?_;clear U K|refine cdA fun K U=>?_|refine bn fun K U=>?_;go_simp|refine bq ?_)
     have hIb:=Fe.out.pushE (hd:=vv) (by rw [yY.out];exact xC.out.v) qU.out HSB9.out;have sS:Chg [b7] Wa (Wa.setCell ⟨b7,104,none⟩ (.slice A9 n9 c9)):=(av [b7] Wa).setCell (p:=⟨b7,104,none⟩) (.inl (by simp)) _;clear qa la fa p1 q7 l7 l5;generalize Wa.setCell ⟨b7,104,none⟩ (.slice A9 n9 c9) = Wb at hIb sS ⊢;have Bq:=bk hIb;have GW:W3.heap.size≤b7:=(CM.out b7 (.inl rfl)).1;have HCBE:=bk (show W9.heap.size≤Wb.heap.size from au pQ.out.size (au qU.out.size sS.size));have Ds:=bk (show Chg [] W3 Wb from (((kV.out.stay Ge.out).stay pQ.out).trans qU.out (fun y hy=>.inr (CM.out y (.inr (.inr (.inl hy)))).1)).trans sS (fun y hy=>.inr (by obtain rfl:=aa hy;exact GW)));have HCb:=bk (kL.out.stay Ds.out);have HXb:=bk (show XB Wb b8 ⟨0,vv,[]⟩ (.slice A5 k5 c5) from by
      have h1:=bf HX9.out pQ.out
      have h2:=aw h1 qU.out (fun hk=>SE.not_blk Fe.out.ev.sl h1 (by decide) hk)
      exact aw h2 sS (by simp;exact fun e=>Blk.ne_ tX.out.blk HX9.out (by decide) e.symm))
     have BN:=bk (show ∀i∈own (.slice A9 n9 c9),W3.heap.size≤i from fun i hi=>by
      rcases zX.out i hi with h1 | h1
      ·exact (CM.out i (.inr (.inr (.inl h1)))).1
      ·exact au ((kV.out.stay Ge.out).stay pQ.out).size h1)
     obtain ⟨Ao,co,sL⟩:=SE.form Bq.out.ob.sl;have sF:=bk sL;clear hIb sS GW sL;refine rgt [0,0,0,0,5,0,5,0,5,6,0,6,3,0,0,3] [none,none,none,none,none,none,none,none,none,none,none,none,none,none,none,none] (fun W=>Chg [] Wb W) ?_;have hS:Chg [] Wb Wb.drew:=(av [] Wb).drew;generalize Wb.drew = Wc at hS ⊢;have yT:=bk (fun W (h:Chg [] Wb W)=>(gt Tryz.underlying77 (by rw [← sF.out];exact WB.voc (Bq.out.stay h).blk):(loadVar 77 ⟨b7,103,none⟩).run Tryz.prog W = .ok (.slice Ao L8.length co) W));have tH:=bk (fun W (h:Chg [] Wb W)=>(dg Tryz.underlying37 (by rw [yY.out];exact (XB.cells (oB.out W (HCb.out.stay h))).2.1):(loadVar 37 ⟨b5,1,none⟩).run Tryz.prog W = .ok (.int .u64 vv) W));have yU:=bk (fun W (h:Chg [] Wb W)=>(dg Tryz.underlying3 (by rw [← uB.out.1];exact (ay (lG.out W (HCb.out.stay h))).2.2.2.2.2.2.1):(loadVar 3 ⟨b4,6,none⟩).run Tryz.prog W = .ok (.int .i64 S0) W));have sW:∀W:World,(Instr.makeSlice 38 (.int .i64 (S0:Int)) (.int .i64 (S0:Int))).run Tryz.prog W = .ok (.slice (some ⟨W.heap.size,0,none⟩) S0 S0) (W.alloc (.cells (madeCells #[.int .u8 0] S0) 5)):=fun W =>
      run_make_row' 38 5 (.int .u8 0) 1 Tryz.underlying38 info5c rfl .i64 .i64 S0 (by have:=uB.out.2;omega) (by have:=uB.out.2;omega) W
     have l7:=bb (Bq.out.stay hS).blk;go_wp2_with (first|refine ca 77 _ rfl rfl yT.out hS ?_|refine ca 37 _ rfl rfl tH.out hS ?_|refine ca 3 _ rfl rfl yU.out hS ?_|refine cdA fun K U=>?_|refine bn fun K U=>?_;go_simp|refine bq ?_);(refine cd hS fun K U=>?_);go_simp;obtain ⟨Wd,hWd⟩:∃W,W = Wc.alloc (.cells (madeCells #[.int .u8 0] S0) 5):=⟨_,rfl⟩;have Ho:Chg [] Wc Wd:=(by rw [hWd];exact (av [] _).alloc _);have hsd:SE ucl 1 5 Wd (.slice (some ⟨Wc.heap.size,0,none⟩) S0 S0) (List.replicate S0 0):=by rw [hWd];exact uw Wc S0 (by have:=uB.out.2;omega)
     try rw [← hWd]
     obtain ⟨bz,Cn⟩:∃y,y = Wc.heap.size:=⟨_,rfl⟩;rw [← Cn] at hsd ⊢;have HBZ:=bk (show Wb.heap.size≤bz by have:=hS.size;omega);have HSD:=bk hsd;replace hS:Chg [] Wb Wd:=hS.stay Ho;refine U _ _ hS ?_;have Bn:=bk (bo_of vv (some ⟨bz,0,none⟩) S0 S0);clear U K hWd Cn Ho hsd sW l7;have l7:=bb (Bq.out.stay hS).blk;go_wp2_with (first|refine vn fun K U=>?_;refine yu _ rfl Bn.out ?_ ?_;(focus (simp [Act.eval];done));refine U _ _ ?_;clear U K|refine cdA fun K U=>?_|refine bn fun K U=>?_;go_simp|refine bq ?_);(refine cd hS fun K U=>?_);go_simp;obtain ⟨We,hWe⟩:∃W,W = Wd.alloc (.cells #[.int .u64 vv,.slice (some ⟨bz,0,none⟩) S0 S0] 92):=⟨_,rfl⟩;have El:Chg [] Wd We:=(by rw [hWe];exact (av [] _).alloc _);have Iw:RE obl 2 We (.slice (some ⟨Wd.heap.size,0,none⟩) 1 1) [⟨vv,List.replicate S0 0,.slice (some ⟨bz,0,none⟩) S0 S0⟩]:=by rw [hWe];exact OB_one Wd vv _ _
     try rw [← hWe]
     obtain ⟨by_,Da⟩:∃y,y = Wd.heap.size:=⟨_,rfl⟩;rw [← Da] at Iw ⊢;have GH:=bk Iw;have HSE:=bk (SE.stay HSD.out El);replace hS:Chg [] Wb We:=hS.stay El;refine U _ _ hS ?_;clear U K hWe Da El Iw l7;have qV:=bk hS;have yC:=bk (show SE obl 2 92 We (.slice Ao L8.length co) L8 from by have:=(Bq.out.stay hS).ob.sl;rw [sF.out] at this;exact this);(refine dy fun K U=>?_);refine mb _ _ rfl (.slice Ao L8.length co) (.slice (some ⟨by_,0,none⟩) 1 1) rfl rfl yC.out GH.out (fun o ho=>by obtain rfl:=aa ho;rfl) (by have h1:=HL8.out;have h2:=qK.out;simp;omega) ?_;intro Af nf cf Wf hnf hsf hcf hgf;have Bg:WB Wf b7 N8.c sp8 vo8 (.slice A9 n9 c9):=aw (Bq.out.stay hS).blk hcf (fun hk=>SE.not_blk yC.out (Bq.out.stay hS).blk (by decide) hk);have qf:=WB.voc Bg;have lf:=bb Bg;have ff:=Blk.frozen Bg 103;have HWBF:=bk Bg;have HSF:=bk hsf;have Fa:=bk hcf;have HGF:=bk hgf;have hXf:XB Wf b8 ⟨0,vv,[]⟩ (.slice A5 k5 c5):=aw (bf HXb.out hS) hcf (fun hk=>SE.not_blk yC.out (bf HXb.out hS) (by decide) hk);have HXF:=bk hXf;refine U _ _ ?_;clear U K hnf hsf hcf hgf Bg hS hXf;go_upto_region 14 with (first|refine cdA fun K U=>?_|refine bn fun K U=>?_;go_simp|refine bq ?_)
     have hIg:=Bq.out.pushO (hd:=vv) (B:=List.replicate S0 0) (by
      show N8.ob (vv:Int) = none
      rw [Ad.out]
      cases zG:M.ob (vv:Int) with
      | none=>rfl
      | some B=>have h1:=Bp.out _ _ zG;rw [HEV2.out] at h1;cases h1) (by rw [yY.out];exact xC.out.v) (fun y hy=>by rw [List.mem_replicate] at hy;omega) qV.out HSE.out (fun i hi=>by rw [fd] at hi;obtain rfl:=aa hi;exact HBZ.out) (by rw [sF.out];exact Fa.out) HSF.out
     have AG:Chg [b7] Wf (Wf.setCell ⟨b7,103,none⟩ (.slice Af nf cf)):=(av [b7] Wf).setCell (p:=⟨b7,103,none⟩) (.inl (by simp)) _;clear qf lf ff;generalize Wf.setCell ⟨b7,103,none⟩ (.slice Af nf cf) = Wg at hIg AG ⊢;have hMN:({ ({ N8 with ev:=upd N8.ev (vv:Int) true }:Mo) with ob:=upd N8.ob (vv:Int) (some (List.replicate S0 0)) }:Mo) = N9:=(by rw [Gy.out,Ad.out]);have DV:WIn Wg b7 N9 sp8 (.slice Af nf cf) (.slice A9 n9 c9) (L8 ++ [⟨vv,List.replicate S0 0,.slice (some ⟨bz,0,none⟩) S0 S0⟩]) (E ++ [vv]) gb8 gm8 gs8:=(by rw [← hMN];exact hIg);have HI9':=bk DV;have HC3g:=bk (show Chg [] W3 Wg from ((Ds.out.stay qV.out).trans Fa.out (fun y hy=>.inr (CM.out y (.inr (.inl (by rw [sF.out];exact hy)))).1)).trans AG (fun y hy=>.inr (by obtain rfl:=aa hy;exact (CM.out _ (.inl rfl)).1)));have Dx:=bk (kL.out.stay HC3g.out);have HX8':=bk (show XB Wg b8 ⟨0,vv,[]⟩ (.slice A5 k5 c5) from aw HXF.out AG (by simp;exact fun e=>Blk.ne_ HWBF.out HXF.out (by decide) e.symm));have HRY':=bk (show RB Wg (.slice A5 k5 c5) (⟨0,vv,[]⟩:Rs).l from by
      obtain ⟨h1,A',c',e',Bx,pY⟩:=BU.out
      exact ⟨h1,A',c',e',Bx,fun h=>absurd h (by simp)⟩)
     have DR:=bk (show ∀b∈(⟨0,vv,[]⟩:Rs).l,b < 256 from fun b hb=>by cases hb);have Dy:=bk (show ∀k,FW' N9 b7 (.slice Af nf cf) (.slice A9 n9 c9) (L8 ++ [⟨vv,List.replicate S0 0,.slice (some ⟨bz,0,none⟩) S0 S0⟩]) gb8 gm8 k→w.heap.size≤k∧k < Wg.heap.size from fun k hk=>by
      have h03:=(lE.out.stay kL.out).size
      have h35:W3.heap.size≤Wb.heap.size:=Ds.out.size
      have h5g:W5.heap.size≤Wg.heap.size:=au pH.out.size (au HC89.out.size (au HCBE.out (au qV.out.size (au Fa.out.size AG.size))))
      have old:∀y,FW' N8 b7 vo8 (.slice Ae E.length ce) L8 gb8 gm8 y→w.heap.size≤y∧y < Wg.heap.size:=fun y hy=>by
       have h1:=CM.out y hy
       exact ⟨by omega,by omega⟩
      rcases hk with h | h | h | ⟨o,ho,h⟩ | ⟨n,p,hp,h⟩
      ·exact old k (.inl h)
      ·refine ⟨?_,SE.own_lt DV.ob.sl k h⟩
       rcases HGF.out k h with h1 | h1
       ·exact (old k (.inr (.inl (by rw [sF.out];exact h1)))).1
       ·have:=qV.out.size;omega
      ·refine ⟨?_,SE.own_lt DV.ev.sl k h⟩
       have:=BN.out k h
       omega
      ·refine ⟨?_,SE.own_lt (DV.ob.bt o ho).1 k h⟩
       rcases List.mem_append.1 ho with ho | ho
       ·exact (old k (.inr (.inr (.inr (.inl ⟨o,ho,h⟩))))).1
       ·obtain rfl:=aa ho
        rw [fd] at h
        obtain rfl:=aa h
        have:=HBZ.out
        omega
      ·refine old k (.inr (.inr (.inr (.inr ⟨n,p,?_,h⟩))))
       rw [Ad.out]
       rw [Gy.out] at hp
       exact hp)
     have zZ:=bk (show (L8 ++ [(⟨vv,List.replicate S0 0,.slice (some ⟨bz,0,none⟩) S0 S0⟩:Ob)]).length≤N+1∧(E ++ [vv]).length≤N+1 from by have h1:=HL8.out;have h2:=qK.out;simp;omega);obtain ⟨vo9,EM⟩:∃y,y = Value.slice Af nf cf:=⟨_,rfl⟩;obtain ⟨ve9,EL⟩:∃y,y = Value.slice A9 n9 c9:=⟨_,rfl⟩;obtain ⟨L9,qO⟩:∃y,y = L8 ++ [(⟨vv,List.replicate S0 0,.slice (some ⟨bz,0,none⟩) S0 S0⟩:Ob)]:=⟨_,rfl⟩;obtain ⟨E9,hE9⟩:∃y,y = E ++ [vv]:=⟨_,rfl⟩;rw [← EM,← EL,← qO] at Dy;rw [← qO,← hE9] at zZ;rw [← EM,← EL,← qO,← hE9] at DV;have DB:=bk DV;clear hIg AG DV EM EL qO hE9 hMN HI9' yT tH yU;go_wp2_with (first|refine ef (b:=b5) (x:=r) (v:=.slice A1 r.l.length c1) rfl _ rfl rfl (oB.out Wg Dx.out) ?_|refine ef (b:=b8) (x:=⟨0,vv,[]⟩) (v:=.slice A5 k5 c5) rfl _ rfl rfl HX8'.out ?_);refine (kl (HU.out Wg Dx.out) HRY'.out xC.out.l DR.out).mono ?_;rintro e Wh ⟨rfl,wI⟩;have oM:=bk wI;clear wI;cases pV:ed r ⟨0,vv,[]⟩ with
     | false =>
      obtain ⟨rfl,rfl⟩:=oZ.out.2 pV;clear pV;go_wp2_with fail;go_ret;exact ⟨rfl,nE.out _ (Dx.out.stay oM.out)⟩
     | true =>
      obtain ⟨rfl,sA⟩:=oZ.out.1 pV;have DJ:=bk sA;clear pV sA;have rN:=bk (DB.out.stay oM.out);have pI:=bk (ai (SO.one DB.out.ob.sl) (SW.one DB.out.ev.sl));go_wp2_with (first|refine kz (b:=b7) (c:=N9.c) (sp:=sp8) (vo:=vo9) (ve:=ve9) rfl _ rfl rfl rN.out.blk ?_|refine ke (b:=m) (c:=N9.c) (sp:=sp8) (vo:=vo9) (ve:=ve9) rfl _ _ rfl rfl rfl pI.out.1 pI.out.2 (HI.out Wh (Dx.out.stay oM.out)).blk ?_;intro Wi he AF;have BN:=bk he;have qV:=bk AF;clear he AF);go_ret;refine ⟨rfl,?_⟩;rw [DJ.out];have hI:=WIn.take (HI.out Wh (Dx.out.stay oM.out)).blk rN.out BN.out qV.out;have IM:=oM.out.size;have Dh:=qV.out.size;have Di:=(lE.out.stay Dx.out).size;have wE:O m:=Bs.out.1 m (.inl rfl);have sX:=Bs.out.2 m wE;have mO:Chg [m] w Wi:=((lE.out.stay (Dx.out.stay oM.out)).up [m]).and_ qV.out;have mQ:∀k,FW' N9 m vo9 ve9 L9 gb8 gm8 k→(k = m∨w.heap.size≤k)∧k < Wi.heap.size:=fun k hk=>by
       rcases hk with h | h
       ·exact ⟨.inl h,by omega⟩
       ·have:=Dy.out k (.inr h);exact ⟨.inr this.1,by omega⟩
      refine ⟨CP.of mO (fun y hy=>.inl (by obtain rfl:=aa hy;exact wE)),fun k=>FW' N9 m vo9 ve9 L9 gb8 gm8 k,⟨_,_,_,_,_,_,_,_,hI,fun k hk=>hk,fun k hk=>(mQ k hk).2,zZ.out.1,zZ.out.2⟩,fun k hk=>?_⟩;rcases (mQ k hk).1 with h | h
      ·exact .inl (h ▸ wE)
      ·exact .inr h
   ·have DY:=(ans17 yZ r.v).1 (show (cj M x 0).1.e = 0 from by rw [kH.out] at h0;unfold doA at h0;rw [ag (by omega)] at h0;exact h0);have hRe:RR = (⟨0,0,[]⟩,none):=(by rw [kH.out];unfold doA;rw [ag (by omega)];exact DY.1);subst hRe;obtain ⟨nn,yO,yM⟩:∃n:Nat,M.c 0 = n∧n≤1000:=by
     have h:=mayB_iff.1 (gz nY.out).1;have h1:=h.n1;have h2:=h.n8;exact ⟨(M.c 0).toNat,by omega,by omega⟩
    have zR:=bk (show SB = ed r ⟨0,min r.v nn,[]⟩∧SM = M from by
     rw [xU.out.1,xU.out.2,DY.2,yO,Int.toNat_natCast]
     refine ⟨rfl,?_⟩
     show (if _ then (none:Option Mo).getD M else M) = M
     split <;> rfl)
    have uK:=bk (td 17 W6);rw [show ((17:Nat) == 10 || (17:Nat) == 17) = true from rfl] at uK;have HK:=bk yZ;have Br:=bk (ai yO yM);have Ad:=bk (show N8 = M from by rw [CR.out];rfl);rw [HK.out] at c0';obtain ⟨vv,EN⟩:∃vv:Nat,vv = r.v:=⟨_,rfl⟩;rw [← EN] at p1;have yY:=bk EN;clear h0 yZ DY yO yM EN;go_wp2_with fail;refine uK.out.mono ?_;rintro e W6' ⟨rfl,rfl⟩;go_upto_region 9 with (fail)
    have EP:=XB.set_v H6.out vv;have lC:Chg [b8] W6 (W6.setCell ⟨b8,1,none⟩ (.int .u64 vv)):=(av [b8] W6).setCell (p:=⟨b8,1,none⟩) (.inl (by simp)) _;clear c0' s6 l4 p1 l5 q0 q1 ql qf1;generalize W6.setCell ⟨b8,1,none⟩ (.int .u64 vv) = W7 at EP lC ⊢;refine rgt [0,1,0,0,0,1,0,0,0,0,1,0,0,0,0,0,1,0,0,0,1,0,0,0,0,1,3,0,0,0] [none,none,none,none,some (47,true),some (47,true),some (47,true),some (47,true),some (47,true),some (47,true),some (47,true),some (47,true),some (47,true),none,none,some (58,false),some (58,false),some (58,false),some (58,false),some (62,true),some (62,true),some (62,true),some (62,true),some (66,false),some (66,false),some (66,false),some (66,false),some (62,true),some (58,false),none] (fun _=>True) ?_;have Bh:=Blk.drew EP;have oE:=lC.drew;generalize W7.drew = W8 at Bh oE ⊢;have pH:=bk (show Chg [] W5 W8 from pP.out.trans oE (fun y hy=>.inr (by obtain rfl:=aa hy;exact Nat.le_of_eq zN.out.symm)));have mR:=bk (kU.out.stay pH.out);have At:=bk Bh;have Fn:=bk (BU.out.stay pH.out);clear EP lC Bh oE;obtain ⟨r0,-,-,-,-,-,r6,-,-,-,-,-,l4,-⟩:=ay (lG.out W8 mR.out);rw [HK.out] at r0;obtain ⟨-,p1,-,l5,-⟩:=XB.cells (oB.out W8 mR.out);rw [← yY.out] at p1;have lm:=bb (HI.out W8 mR.out).blk;have m0:=WB.c0 (HI.out W8 mR.out).blk;rw [Br.out.1] at m0;have hwu:IntKind.u64.wrap (nn:Int) = (nn:Int):=(by rw [IntKind.wrap_u64];have:=Br.out.2;omega);by_cases rS:nn < vv
    ·have d1:decide ((nn:Int) < (vv:Int)) = true:=ae (by omega);have d1':decide (nn < vv) = true:=ae rS;have oZ:=bk (show SB = false∧SM = M from by
      refine ⟨?_,zR.out.2⟩
      rw [zR.out.1]
      cases hs:ed r ⟨0,min r.v nn,[]⟩ with
      | false=>rfl
      | true =>
       have:=congrArg Rs.v ((qh _ _).1 hs)
       simp only at this
       have h2:=yY.out
       omega)
     clear rS;go_upto_region 10 with (first|refine fj ?_ ?_;(focus (simp [gf,undef];done));go_simp|refine dy fun K U=>?_;go_simp;refine (rf (HI.out W8 mR.out) vv).mono ?_;rintro e W8' ⟨rfl,rfl⟩;refine U _ _ ?_;clear U K|refine cdA fun K U=>?_|refine cx ?_;go_simp|refine cy ?_|refine bn fun K U=>?_;go_simp|refine bq ?_)
     obtain ⟨rfl,rfl⟩:=oZ.out;go_wp2_with fail;go_ret;exact ⟨rfl,nE.out _ mR.out⟩
    ·have d1:decide ((nn:Int) < (vv:Int)) = false:=ac (by omega);have d1':decide (nn < vv) = false:=ac rS;have oZ:=bk (show (ed r ⟨0,vv,[]⟩ = true→SB = true∧SM = N8)∧(ed r ⟨0,vv,[]⟩ = false→SB = false∧SM = M) from by
      rw [zR.out.1,zR.out.2,Ad.out,show min r.v nn = vv by have:=yY.out;omega]
      exact ⟨fun h=>⟨h,rfl⟩,fun h=>⟨h,rfl⟩⟩)
     clear rS;go_upto_region 11 with (first|refine fj ?_ ?_;(focus (simp [gf,undef];done));go_simp|refine dy fun K U=>?_;go_simp;refine (rf (HI.out W8 mR.out) vv).mono ?_;rintro e W8' ⟨rfl,rfl⟩;refine U _ _ ?_;clear U K|refine cdA fun K U=>?_|refine cx ?_;go_simp|refine cy ?_|refine bn fun K U=>?_;go_simp|refine bq ?_)
     clear m0 hwu d1 d1';go_upto_region 14 with (fail)
     have tX:=bk (HI8.out.stay pH.out);have Dy:=bk (show ∀k,FW' N8 b7 vo8 ve7 L8 gb8 gm8 k→w.heap.size≤k∧k < W8.heap.size from fun k hk=>by have h1:=CM.out k hk;have h2:=pH.out.size;have h3:=(lE.out.stay kL.out).size;omega);have zZ:=bk (show L8.length≤N+1∧E.length≤N+1 from by have h1:=HL8.out;have h2:=qK.out;omega);have DR:=bk (show ∀b∈(⟨0,vv,[]⟩:Rs).l,b < 256 from fun b hb=>by cases hb);clear r0 r6 l4 p1 l5 lm;go_wp2_with (first|refine ef (b:=b5) (x:=r) (v:=.slice A1 r.l.length c1) rfl _ rfl rfl (oB.out W8 mR.out) ?_|refine ef (b:=b8) (x:=⟨0,vv,[]⟩) (v:=.slice A5 k5 c5) rfl _ rfl rfl At.out ?_);refine (kl (HU.out W8 mR.out) Fn.out xC.out.l DR.out).mono ?_;rintro e Wd ⟨rfl,wI⟩;have oM:=bk wI;clear wI;cases pV:ed r ⟨0,vv,[]⟩ with
     | false =>
      obtain ⟨rfl,rfl⟩:=oZ.out.2 pV;clear pV;go_wp2_with fail;go_ret;exact ⟨rfl,nE.out _ (mR.out.stay oM.out)⟩
     | true =>
      obtain ⟨rfl,sA⟩:=oZ.out.1 pV;have DJ:=bk sA;clear pV sA;have rN:=bk (tX.out.stay oM.out);have pI:=bk (ai (SO.one tX.out.ob.sl) (SW.one tX.out.ev.sl));go_wp2_with (first|refine kz (b:=b7) (c:=N8.c) (sp:=sp8) (vo:=vo8) (ve:=ve7) rfl _ rfl rfl rN.out.blk ?_|refine ke (b:=m) (c:=N8.c) (sp:=sp8) (vo:=vo8) (ve:=ve7) rfl _ _ rfl rfl rfl pI.out.1 pI.out.2 (HI.out Wd (mR.out.stay oM.out)).blk ?_;intro We he AF;have BN:=bk he;have qV:=bk AF;clear he AF);go_ret;refine ⟨rfl,?_⟩;rw [DJ.out];have hI:=WIn.take (HI.out Wd (mR.out.stay oM.out)).blk rN.out BN.out qV.out;have IM:=oM.out.size;have Dh:=qV.out.size;have Di:=(lE.out.stay mR.out).size;have wE:O m:=Bs.out.1 m (.inl rfl);have sX:=Bs.out.2 m wE;have mO:Chg [m] w We:=((lE.out.stay (mR.out.stay oM.out)).up [m]).and_ qV.out;have mQ:∀k,FW' N8 m vo8 ve7 L8 gb8 gm8 k→(k = m∨w.heap.size≤k)∧k < We.heap.size:=fun k hk=>by
       rcases hk with h | h
       ·exact ⟨.inl h,by omega⟩
       ·have:=Dy.out k (.inr h);exact ⟨.inr this.1,by omega⟩
      refine ⟨CP.of mO (fun y hy=>.inl (by obtain rfl:=aa hy;exact wE)),fun k=>FW' N8 m vo8 ve7 L8 gb8 gm8 k,⟨_,_,_,_,_,_,_,_,hI,fun k hk=>hk,fun k hk=>(mQ k hk).2,zZ.out.1,zZ.out.2⟩,fun k hk=>?_⟩;rcases (mQ k hk).1 with h | h
      ·exact .inl (h ▸ wE)
      ·exact .inr h
structure BW (l:List (Nat × Value)) (c:Cf):Prop where
 h:Tryz.prog.built 79 l = some (wmc c (fun _=>none) zV zV)
theorem bw_of (c:Cf):BW [(0,.agg (cg c))] c:=⟨by kernel_rfl⟩
variable {c:Cf} {Q:Exit→Act→World→Prop} {a:Act} {o:Oper} {rest:List Oper} {ops:Array Oper}
theorem yp (hg:o.guard = none) (parts:Array (Nat × Operand)) (ho:o.op = .build 79 parts)
  {l:List (Nat × Value)} (hb:BW l c) (hl:(parts.map fun (i,x)=>(i,a.eval x)).toList = l) (h:wpList Tryz.prog ops Q rest (a.put o.dst (.agg (wmc c (fun _=>none) zV zV))) w):wpList Tryz.prog ops Q (o :: rest) a w :=
 wpList_build hg 79 parts ho (by rw [hl,hb.h];rfl) (by rw [hl,hb.h];exact h)
variable {sp:Nat→Option Nat}
theorem cB {vo ve:Value} (hg:o.guard = none) (z:Operand) (ho:o.op = .box 79 z) (hx:a.eval z = .agg (wmc c sp vo ve))
  (h:∀w',WB w' w.heap.size c sp vo ve→Chg [] w w'→w'.heap.size = w.heap.size+1→wpList Tryz.prog ops Q rest (a.put o.dst (.pointer (some ⟨w.heap.size,0,none⟩))) w'):wpList Tryz.prog ops Q (o :: rest) a w :=
 Great.wpList_runTo hg _ rfl _ _ (by unfold execOp;simp only [ho,hx,Sem.run_bind,Instr.box,newVar,newRow,run_newObj_alloc,Sem.run_pure,Result.andThen_ok,Value.cells]) (h _ (ax w _ _) ((av [] w).alloc _) (af _ _))
theorem WIn.fresh (h:WB w b c (fun _=>none) zV zV):WIn w b (np c) (fun _=>none) zV zV [] [] (fun _=>0) (fun _=>0) (fun _=>zSq) :=
 ⟨h,⟨SE.nil _ _ _ _,fun o ho=>(by cases ho),List.Pairwise.nil,List.Pairwise.nil,fun _=>rfl⟩,⟨SE.nil _ _ _ _,fun e he=>(by cases he),fun _=>rfl⟩,fun _ _=>rfl,fun z p hp=>(by cases hp),fun n p hp=>(by cases hp),fun n n' p p' hp=>(by cases hp)⟩
theorem rNew_any (c:Cf) (w:World):Calls Tryz.prog 9 #[.agg (cg c)] w fun e w' =>
  ((mayB c = false∧e = .returned (.tuple #[.pointer none,.int .i64 2]))∨(mayB c = true∧∃b,e = .returned (.tuple #[.pointer (some ⟨b,0,none⟩),.int .i64 0])∧WN w' b (np c) (fun k=>k = b) 0∧w.heap.size≤b))∧Chg [] w w':=by
 obtain ⟨W1,kP⟩:∃W1,W1 = w.alloc (.cells (cg c) 26):=⟨_,rfl⟩;have hb:CB W1 w.heap.size c:=by rw [kP];exact ax w 26 _
 have kO:Chg [] w W1:=by rw [kP];exact (av [] w).alloc _
 have mH:=bk kP;have HB:=bk hb;have lU:=bk kO;have sD:=bk (fun W=>yb c W);have HBW:=bk (bw_of c);clear kP hb kO;cases hm:mayB c with
 | false =>
  rw [hm] at sD;go_enter Tryz.func9,Tryz.ntmps9;go_wp2_with (first|refine da rfl _ rfl rfl ?_;try rw [← mH.out]|refine dd (b:=w.heap.size) (c:=c) rfl _ rfl rfl ?_ ?_;(focus exact HB.out));refine (sD.out _).mono ?_;rintro e W3 ⟨rfl,kM⟩;have kL:=bk kM;clear kM;go_wp2_with fail;refine bodyPost_ret (v:=.tuple #[.pointer none,.int .i64 2]) (by simp [results,Tryz.results9]) rfl ?_;exact ⟨.inl ⟨by first | rfl | trivial,rfl⟩,lU.out.stay kL.out⟩
 | true =>
  rw [hm] at sD;go_enter Tryz.func9,Tryz.ntmps9;go_wp2_with (first|refine da rfl _ rfl rfl ?_;try rw [← mH.out]|refine dd (b:=w.heap.size) (c:=c) rfl _ rfl rfl ?_ ?_;(focus exact HB.out));refine (sD.out _).mono ?_;rintro e W3 ⟨rfl,kM⟩;have kL:=bk kM;have lI:=bk (show CB W3 w.heap.size c from aw HB.out kM ab);clear kM;go_wp2_with (first|refine dd (b:=w.heap.size) (c:=c) rfl _ rfl rfl ?_ ?_;(focus exact lI.out)|refine yp rfl _ rfl HBW.out ?_ ?_;(focus (simp [Act.eval,Act.put];done))|refine cB rfl _ rfl rfl ?_;intro W4 h4 kZ FR;have H4:=bk h4;have lA:=bk kZ;have GQ:=bk FR;clear h4 kZ FR);refine bodyPost_ret (v:=.tuple #[.pointer (some ⟨W3.heap.size,0,none⟩),.int .i64 0]) (by simp [results,Tryz.results9]) rfl ?_;have Di:=(lU.out.stay kL.out).size;refine ⟨.inr ⟨by first | rfl | trivial,W3.heap.size,rfl,⟨_,_,_,_,_,_,_,_,WIn.fresh H4.out,fun k hk=>?_,fun k hk=>?_,Nat.le_refl _,Nat.le_refl _⟩,Di⟩,(lU.out.stay kL.out).stay lA.out⟩
  ·rcases hk with h | h | h | ⟨o,ho,h⟩ | ⟨n,p,hp,h⟩
   ·exact h
   ·exact (cw h).elim
   ·exact (cw h).elim
   ·cases ho
   ·cases hp
  ·rw [hk];exact bb H4.out
variable {K:Act→World→Prop}
theorem lq (ho:o.op = .alloc 40)
  (h:K (a.put o.dst (.pointer (some ⟨w.heap.size,0,none⟩))) (w.alloc (.cells (rsc zRs zV) 40))):o.wp Tryz.prog a w K Q:=by
 unfold Oper.wp execOp;simp only [ho,Sem.run_bind,vt,Sem.run_pure,Result.andThen_ok];exact h
theorem dG (h:WN w m M O N) (hN:N≤400000) (oV:MoOk M) (hx:x.Ok) (hv:RB w v x.l) (f:Nat) :
  Calls Tryz.prog 17 #[.pointer (some ⟨m,0,none⟩),.agg (clc x v),.int .u64 f] w fun e w'=>(∃A k c,e = .returned (.agg (rsc (pj M x f) (.slice A k c)))∧RB w' (.slice A k c) (pj M x f).l∧∀i∈own (.slice A k c),w.heap.size≤i)∧Chg [] w w':=by
 have pL:x.l≠[]→∀k∈own v,k < w.heap.size:=fun hl=>RB.own_lt hv hl;obtain ⟨A0,c0,rfl⟩:=RE.form hv;obtain ⟨sp,vo,ve,L,E,gb,gm,gs,hI,hO,hl,Cg,hEN⟩:=h;obtain ⟨W2,kJ⟩:∃W2,W2 = (w.alloc (.cells (clc x (.slice A0 x.l.length c0)) 47)).alloc (.cells (rsc zRs zV) 40):=⟨_,rfl⟩;have kI:Chg [] w W2:=by rw [kJ];exact ((av [] w).alloc _).alloc _
 have lZ:KB W2 w.heap.size x (.slice A0 x.l.length c0):=by rw [kJ];exact (ax w _ _).alloc _
 have qQ:XB W2 (w.heap.size+1) zRs zV:=by
  have:=ax (w.alloc (.cells (clc x (.slice A0 x.l.length c0)) 47)) 40 (rsc zRs zV);rw [af] at this;rw [kJ];exact this
 obtain ⟨b4,e4⟩:∃b,b = w.heap.size:=⟨_,rfl⟩;obtain ⟨b6,e6⟩:∃b,b = w.heap.size+1:=⟨_,rfl⟩;rw [← e6] at qQ;rw [← e4] at lZ;have HE:=bk (ai e4 e6);have HI:=bk (fun W (h:Chg [] W2 W)=>hI.stay (kI.stay h));have lG:=bk (fun W (h:Chg [] W2 W)=>bh lZ h);have lS:=bk (fun W (h:Chg [] W2 W)=>bf qQ h);have lE:=bk kI;have kW:=bk kJ;have HV:=bk (fun W (h:Chg [] W2 W)=>RE.stay hv (kI.stay h));have HX:=bk hx;have Ah:=bk pL;have tA:=bk oV;have qK:=bk (show L.length≤500000∧E.length≤500000 by omega);have EVE:=bk (fun e=>br_e e);have HZ2:=bk (show b6 < W2.heap.size from bb qQ);clear hI hO hl hv hx lZ qQ kI kJ e4 e6 pL oV Cg hEN hN;obtain ⟨AR,hAR⟩:∃R,R = pj M x f:=⟨_,rfl⟩;rw [← hAR];have HAR:=bk hAR;clear hAR;have uH:=fun W (h:Chg [] W2 W)=>vq (w:=W) M.c HX.out (HV.out W h);rw [← eM M.c HX.out] at uH;have vZ:=bk uH;clear uH;go_enter Tryz.func17,Tryz.ntmps17;go_upto_region 1 with (first|refine cc rfl _ rfl rfl ?_;try simp only [af]|refine ck rfl rfl ?_;try simp only [af];try rw [← kW.out])
 try rw [← HE.out.2,← HE.out.1]
 cases hw:dr M.c x with
 | true =>
  obtain rfl:AR = bw 2:=by rw [HAR.out];unfold pj;rw [ah hw]
  rw [hw] at vZ;clear hw;refine rgt [0,0,0,5,5,3] [none,none,none,none,none,none] (fun W=>Chg [] W2 W) ?_;have hS:Chg [] W2 W2.drew:=(av [] W2).drew;have lm:=bb (HI.out _ hS).blk;generalize W2.drew = W0 at hS lm ⊢;go_upto_region 2 with (first|refine ca 26 _ rfl rfl (fun w' kK=>WB.load26 (HI.out w' kK).blk) hS ?_|refine ca 47 _ rfl rfl (fun w' kK=>KB.load (lG.out w' kK)) hS ?_|refine dy fun K U=>?_;go_simp;refine (vZ.out W0 hS).mono ?_;rintro e W3 ⟨rfl,kM⟩;refine U _ _ ?_;clear U K;have kL:=bk (hS.stay kM);clear kM hS lm|refine cdA fun K U=>?_|refine bn fun K U=>?_;go_simp|refine bq ?_)
  go_wp2_with (first|refine cz rfl _ rfl (EVE.out 2) ?_ ?_;(focus (simp [Act.eval];done))|refine bu (b:=b6) (x:=zRs) (v:=zV) (y:=bw 2) (u:=zV) rfl _ _ rfl rfl rfl rfl (lS.out W3 kL.out) ?_;intro W6 h6 kF);refine bodyPost_ret (v:=.agg (rsc (bw 2) zV)) (results_cell_row (p:=6) (ty:=40) rfl _ _ b6 40 _ (0,0) _ rfl h6 Tryz.underlying40 rfl dq) rfl ?_;exact ⟨⟨none,0,0,rfl,RE.nil ucl 1 _ none 0,fun _ hk=>(cw hk).elim⟩,(lE.out.stay kL.out).trans kF (fun y hy=>.inr (by obtain rfl:=aa hy;have:=HE.out;omega))⟩
 | false =>
  have nY:=bk hw;rw [hw] at vZ;clear hw;refine rgt [0,0,0,5,5,3] [none,none,none,none,none,none] (fun W=>Chg [] W2 W) ?_;have hS:Chg [] W2 W2.drew:=(av [] W2).drew;have lm:=bb (HI.out _ hS).blk;generalize W2.drew = W0 at hS lm ⊢;go_upto_region 3 with (first|refine ca 26 _ rfl rfl (fun w' kK=>WB.load26 (HI.out w' kK).blk) hS ?_|refine ca 47 _ rfl rfl (fun w' kK=>KB.load (lG.out w' kK)) hS ?_|refine dy fun K U=>?_;go_simp;refine (vZ.out W0 hS).mono ?_;rintro e W3 ⟨rfl,kM⟩;refine U _ _ ?_;clear U K;have kL:=bk (hS.stay kM);clear kM hS lm|refine cdA fun K U=>?_|refine bn fun K U=>?_;go_simp|refine bq ?_)
  obtain ⟨RR,lJ⟩:∃R,R = doA M x:=⟨_,rfl⟩;have kH:=bk lJ;clear lJ;go_cut [7] from 15 to 18 (fun z7 W=>∃b7 A5 k5 c5,z7 = .pointer (some ⟨b7,0,none⟩)∧Hid (XB W b7 RR.1 (.slice A5 k5 c5))∧Hid (RB W (.slice A5 k5 c5) RR.1.l)∧Hid (Chg [] W3 W)∧Hid (∀i∈own (.slice A5 k5 c5),W3.heap.size≤i)∧Hid (W3.heap.size≤b7))
  case first =>
   refine rz [0,6,5,6,6,3] [none,none,none,none,none,none] [[0,1,2,3,4,5],[0,4,1,2,3,5],[0,1,2,4,3,5]] (fun W=>Chg [] W3 W) (by kernel_rfl) (by kernel_rfl) (by kernel_rfl) (by kernel_rfl) (fun L9 qO=>?_);have hS:Chg [] W3 W3.drew:=(av [] W3).drew;generalize W3.drew = W4 at hS ⊢;simp only [List.mem_cons,List.mem_nil_iff,or_false] at qO;rcases qO with rfl | rfl | rfl
   ·simp only [fv,List.filterMap_cons,List.filterMap_nil,List.getElem?_cons_succ,List.getElem?_cons_zero];go_wp2_with (first|refine ca 47 _ rfl rfl (fun w' kK=>KB.load (lG.out w' (kL.out.stay kK))) hS ?_|refine cdA fun K U=>?_|refine bn fun K U=>?_;go_simp|refine bq ?_);(refine cd hS fun K U=>?_);go_simp;refine (se (HI.out _ (kL.out.stay hS)) tA.out qK.out.1 qK.out.2).mono ?_;rintro e W5 ⟨⟨b9,sp7,vo7,ve7,L7,g7,m7,rfl,hI7,hl7,hF7⟩,kE⟩;have IN:=hS.size;replace hS:Chg [] W3 W5:=hS.stay kE;refine U _ _ hS ?_;clear U K;go_wp2_with (first|refine ca 47 _ rfl rfl (fun w' kK=>KB.load (lG.out w' (kL.out.stay kK))) hS ?_|refine cdA fun K U=>?_|refine bn fun K U=>?_;go_simp|refine bq ?_);(refine cd hS fun K U=>?_);go_simp;refine (bD hI7 (fun k hk=>(hF7 k hk).2) HX.out tA.out (by have h1:=qK.out.1;omega) nY.out (.slice A0 x.l.length c0) rfl (HV.out _ (kL.out.stay hS)) (fun kT k hk hf=>by have h1:=Ah.out kT k hk;have h2:=(hF7 k hf).1;have h3:=(lE.out.stay kL.out).size;omega)).mono ?_;rintro e W6 ⟨A5,k5,c5,rfl,pZ,pC,nN,-,-,-,-,-,-,-,-,-⟩;have kF:Chg [] W3 W6:=by
     obtain ⟨G,DT,DU⟩:=nN;refine hS.trans DT (fun y hy=>.inr ?_);rcases DU y hy with h | h
     ·have:=(hF7 y h).1;omega
     ·exact au hS.size h
    rw [← kH.out] at pZ;rw [← kH.out];have AM:∀i∈own (.slice A5 k5 c5),W3.heap.size≤i:=fun i hi=>au hS.size (pC i hi);refine U _ _ kF ?_;clear U K;replace hS:=kF;(refine cd hS fun K U=>?_);refine lq rfl ?_;refine U _ _ (hS.alloc _) ?_;clear U K;have qI:XB (W6.alloc (.cells (rsc zRs zV) 40)) W6.heap.size zRs zV:=ax _ _ _;have uY:Chg [] W6 (W6.alloc (.cells (rsc zRs zV) 40)):=(av [] _).alloc _;have xJ:W3.heap.size≤W6.heap.size:=hS.size;replace hS:Chg [] W3 (W6.alloc (.cells (rsc zRs zV) 40)):=hS.alloc _;obtain ⟨ba,oS⟩:∃y,y = W6.heap.size:=⟨_,rfl⟩;have tB:W6.heap.size≤ba:=Nat.le_of_eq oS.symm;have zE:ba≤W6.heap.size:=Nat.le_of_eq oS;rw [← oS] at qI xJ ⊢;generalize W6.alloc (.cells (rsc zRs zV) 40) = Wa at qI uY hS ⊢;clear oS;have ER:=qI;go_wp2_with (first|refine dy fun K U=>?_;refine ja (b:=ba) (x:=zRs) (v:=zV) (y:=RR.1) (u:=.slice A5 k5 c5) _ _ rfl rfl rfl rfl ER ?_;intro W9 h9 lC;have H9:=bk h9;have mM:=bk lC;clear h9 lC;refine U _ _ ?_;clear U K|refine cdA fun K U=>?_|refine bn fun K U=>?_;go_simp|refine bq ?_);go_meet
    case rel=>exact ⟨ba,A5,k5,c5,rfl,H9,bk (RE.stay pZ (uY.trans mM.out (fun y hy=>.inr (by obtain rfl:=aa hy;exact tB)))),bk (hS.trans mM.out (fun y hy=>.inr (by obtain rfl:=aa hy;exact xJ))),bk AM,bk xJ⟩
   ·simp only [fv,List.filterMap_cons,List.filterMap_nil,List.getElem?_cons_succ,List.getElem?_cons_zero];go_wp2_with (first|refine ca 47 _ rfl rfl (fun w' kK=>KB.load (lG.out w' (kL.out.stay kK))) hS ?_|refine cdA fun K U=>?_|refine bn fun K U=>?_;go_simp|refine bq ?_);(refine cd hS fun K U=>?_);refine lq rfl ?_;refine U _ _ (hS.alloc _) ?_;clear U K;have qI:XB (W4.alloc (.cells (rsc zRs zV) 40)) W4.heap.size zRs zV:=ax _ _ _;have uY:Chg [] W4 (W4.alloc (.cells (rsc zRs zV) 40)):=(av [] _).alloc _;have xJ:W3.heap.size≤W4.heap.size:=hS.size;replace hS:Chg [] W3 (W4.alloc (.cells (rsc zRs zV) 40)):=hS.alloc _;obtain ⟨ba,oS⟩:∃y,y = W4.heap.size:=⟨_,rfl⟩;have tB:W4.heap.size≤ba:=Nat.le_of_eq oS.symm;have zE:ba≤W4.heap.size:=Nat.le_of_eq oS;rw [← oS] at qI xJ ⊢;generalize W4.alloc (.cells (rsc zRs zV) 40) = Wa at qI uY hS ⊢;clear oS;go_wp2_with (first|refine ca 47 _ rfl rfl (fun w' kK=>KB.load (lG.out w' (kL.out.stay kK))) hS ?_|refine cdA fun K U=>?_|refine bn fun K U=>?_;go_simp|refine bq ?_);(refine cd hS fun K U=>?_);go_simp;refine (se (HI.out _ (kL.out.stay hS)) tA.out qK.out.1 qK.out.2).mono ?_;rintro e W5 ⟨⟨b9,sp7,vo7,ve7,L7,g7,m7,rfl,hI7,hl7,hF7⟩,kE⟩;have hbaW:ba < Wa.heap.size:=bb qI;have Hg:XB W5 ba zRs zV:=bf qI kE;have hbaY:ba < W5.heap.size:=bb Hg;have IN:=hS.size;replace hS:Chg [] W3 W5:=hS.stay kE;refine U _ _ hS ?_;clear U K;go_wp2_with (first|refine ca 47 _ rfl rfl (fun w' kK=>KB.load (lG.out w' (kL.out.stay kK))) hS ?_|refine cdA fun K U=>?_|refine bn fun K U=>?_;go_simp|refine bq ?_);(refine cd hS fun K U=>?_);go_simp;refine (bD hI7 (fun k hk=>(hF7 k hk).2) HX.out tA.out (by have h1:=qK.out.1;omega) nY.out (.slice A0 x.l.length c0) rfl (HV.out _ (kL.out.stay hS)) (fun kT k hk hf=>by have h1:=Ah.out kT k hk;have h2:=(hF7 k hf).1;have h3:=(lE.out.stay kL.out).size;omega)).mono ?_;rintro e W6 ⟨A5,k5,c5,rfl,pZ,pC,nN,-,-,-,-,-,-,-,-,-⟩;have kF:Chg [] W3 W6:=by
     obtain ⟨G,DT,DU⟩:=nN;refine hS.trans DT (fun y hy=>.inr ?_);rcases DU y hy with h | h
     ·have:=(hF7 y h).1;omega
     ·exact au hS.size h
    rw [← kH.out] at pZ;rw [← kH.out];have AM:∀i∈own (.slice A5 k5 c5),W3.heap.size≤i:=fun i hi=>au hS.size (pC i hi);refine U _ _ kF ?_;clear U K;replace hS:=kF;have ER:XB W6 ba zRs zV:=Blk.cp Hg nN (fun hk=>by have:=(hF7 ba hk).1;omega);go_wp2_with (first|refine dy fun K U=>?_;refine ja (b:=ba) (x:=zRs) (v:=zV) (y:=RR.1) (u:=.slice A5 k5 c5) _ _ rfl rfl rfl rfl ER ?_;intro W9 h9 lC;have H9:=bk h9;have mM:=bk lC;clear h9 lC;refine U _ _ ?_;clear U K|refine cdA fun K U=>?_|refine bn fun K U=>?_;go_simp|refine bq ?_);go_meet
    case rel=>exact ⟨ba,A5,k5,c5,rfl,H9,bk (RE.chg pZ mM.out (fun y hy Bj=>by obtain rfl:=aa Bj;have:=pC _ (by first | exact hy | exact ip.2 hy);omega)),bk (hS.trans mM.out (fun y hy=>.inr (by obtain rfl:=aa hy;exact xJ))),bk AM,bk xJ⟩
   ·simp only [fv,List.filterMap_cons,List.filterMap_nil,List.getElem?_cons_succ,List.getElem?_cons_zero];go_wp2_with (first|refine ca 47 _ rfl rfl (fun w' kK=>KB.load (lG.out w' (kL.out.stay kK))) hS ?_|refine cdA fun K U=>?_|refine bn fun K U=>?_;go_simp|refine bq ?_);(refine cd hS fun K U=>?_);go_simp;refine (se (HI.out _ (kL.out.stay hS)) tA.out qK.out.1 qK.out.2).mono ?_;rintro e W5 ⟨⟨b9,sp7,vo7,ve7,L7,g7,m7,rfl,hI7,hl7,hF7⟩,kE⟩;have IN:=hS.size;replace hS:Chg [] W3 W5:=hS.stay kE;refine U _ _ hS ?_;clear U K;go_wp2_with (first|refine ca 47 _ rfl rfl (fun w' kK=>KB.load (lG.out w' (kL.out.stay kK))) hS ?_|refine cdA fun K U=>?_|refine bn fun K U=>?_;go_simp|refine bq ?_);(refine cd hS fun K U=>?_);refine lq rfl ?_;refine U _ _ (hS.alloc _) ?_;clear U K;have qI:XB (W5.alloc (.cells (rsc zRs zV) 40)) W5.heap.size zRs zV:=ax _ _ _;have uY:Chg [] W5 (W5.alloc (.cells (rsc zRs zV) 40)):=(av [] _).alloc _;have xJ:W3.heap.size≤W5.heap.size:=hS.size;replace hS:Chg [] W3 (W5.alloc (.cells (rsc zRs zV) 40)):=hS.alloc _;obtain ⟨ba,oS⟩:∃y,y = W5.heap.size:=⟨_,rfl⟩;have tB:W5.heap.size≤ba:=Nat.le_of_eq oS.symm;have zE:ba≤W5.heap.size:=Nat.le_of_eq oS;rw [← oS] at qI xJ ⊢;generalize W5.alloc (.cells (rsc zRs zV) 40) = Wa at qI uY hS ⊢;clear oS;go_wp2_with (first|refine ca 47 _ rfl rfl (fun w' kK=>KB.load (lG.out w' (kL.out.stay kK))) hS ?_|refine cdA fun K U=>?_|refine bn fun K U=>?_;go_simp|refine bq ?_);(refine cd hS fun K U=>?_);go_simp;refine (bD (hI7.stay uY) (fun k hk=>al (hF7 k hk).2 uY.size) HX.out tA.out (by have h1:=qK.out.1;omega) nY.out (.slice A0 x.l.length c0) rfl (HV.out _ (kL.out.stay hS)) (fun kT k hk hf=>by have h1:=Ah.out kT k hk;have h2:=(hF7 k hf).1;have h3:=(lE.out.stay kL.out).size;omega)).mono ?_;rintro e W6 ⟨A5,k5,c5,rfl,pZ,pC,nN,-,-,-,-,-,-,-,-,-⟩;have kF:Chg [] W3 W6:=by
     obtain ⟨G,DT,DU⟩:=nN;refine hS.trans DT (fun y hy=>.inr ?_);rcases DU y hy with h | h
     ·have:=(hF7 y h).1;omega
     ·exact au hS.size h
    rw [← kH.out] at pZ;rw [← kH.out];have AM:∀i∈own (.slice A5 k5 c5),W3.heap.size≤i:=fun i hi=>au hS.size (pC i hi);refine U _ _ kF ?_;clear U K;replace hS:=kF;have ER:XB W6 ba zRs zV:=Blk.cp qI nN (fun hk=>by have:=(hF7 ba hk).2;omega);have hbaW:ba < Wa.heap.size:=bb qI;go_wp2_with (first|refine dy fun K U=>?_;refine ja (b:=ba) (x:=zRs) (v:=zV) (y:=RR.1) (u:=.slice A5 k5 c5) _ _ rfl rfl rfl rfl ER ?_;intro W9 h9 lC;have H9:=bk h9;have mM:=bk lC;clear h9 lC;refine U _ _ ?_;clear U K|refine cdA fun K U=>?_|refine bn fun K U=>?_;go_simp|refine bq ?_);go_meet
    case rel=>exact ⟨ba,A5,k5,c5,rfl,H9,bk (RE.chg pZ mM.out (fun y hy Bj=>by obtain rfl:=aa Bj;have:=pC _ (by first | exact hy | exact ip.2 hy);omega)),bk (hS.trans mM.out (fun y hy=>.inr (by obtain rfl:=aa hy;exact xJ))),bk AM,bk xJ⟩
  obtain ⟨b7,A5,k5,c5,rfl,hx7,hr7,kN,ho7,tN⟩:=hcut;have HX7:=bk hx7.out;have Fm:=bk hr7.out;have qD:=bk (kL.out.stay kN.out);have HO7:=bk ho7.out;have vI:=bk tN.out;clear hx7 hr7 kN ho7 tN;obtain ⟨r0,-,-,-,-,-,-,-,-,-,-,-,l4,-⟩:=ay (lG.out wc qD.out);obtain ⟨-,q1,-,q7,qf⟩:=XB.cells HX7.out;have qf1:=qf 1;clear qf;by_cases mX:x.k = 10
  ·obtain rfl:RR = (bw 0,none):=(by rw [kH.out];unfold doA;rw [ah mX]);obtain rfl:AR = ⟨0,f,[]⟩:=(by rw [HAR.out];unfold pj;rw [ag (by rw [nY.out];decide),ah mX]);rw [mX] at r0;have q1':wc.cell? ⟨b7,1,none⟩ = some (.int .u64 0):=q1;clear q1 mX;go_upto_region 6 with (fail)
   have Bh:XB (wc.setCell ⟨b7,1,none⟩ (.int .u64 f)) b7 ⟨0,f,[]⟩ (.slice A5 k5 c5):=XB.set_v HX7.out f;have oE:Chg [b7] wc (wc.setCell ⟨b7,1,none⟩ (.int .u64 f)):=(av [b7] wc).setCell (p:=⟨b7,1,none⟩) (.inl (by simp)) _;clear r0 q1' q7 qf1 l4;generalize wc.setCell ⟨b7,1,none⟩ (.int .u64 f) = W8 at Bh oE ⊢;have At:=bk Bh;have mR:=bk (show Chg [] W2 W8 from qD.out.trans oE (fun y hy=>.inr (by obtain rfl:=aa hy;exact au kL.out.size vI.out)));clear Bh oE;go_wp2_with (first|refine ef (b:=b7) (x:=⟨0,f,[]⟩) (v:=.slice A5 k5 c5) rfl _ rfl rfl At.out ?_|refine bu (b:=b6) (x:=zRs) (v:=zV) (y:=⟨0,f,[]⟩) (u:=.slice A5 k5 c5) rfl _ _ rfl rfl rfl rfl (lS.out W8 mR.out) ?_;intro W6 h6 kF);refine bodyPost_ret (v:=.agg (rsc ⟨0,f,[]⟩ (.slice A5 k5 c5))) (results_cell_row (p:=6) (ty:=40) rfl _ _ b6 40 _ (0,0) _ rfl h6 Tryz.underlying40 rfl dq) rfl ?_;refine ⟨⟨A5,k5,c5,rfl,?_,fun i hi=>au (lE.out.stay kL.out).size (HO7.out i (by first | exact hi | exact ip.2 hi))⟩,(lE.out.stay mR.out).trans kF (fun y hy=>.inr (by obtain rfl:=aa hy;have:=HE.out;omega))⟩;obtain ⟨h1,A',c',e',Bx,pY⟩:=Fm.out;exact ⟨h1,A',c',e',Bx,fun h=>absurd h (by simp)⟩
  ·have d0:((x.k:Int) == 10) = false:=aj (by omega);obtain rfl:AR = RR.1:=(by rw [HAR.out,kH.out];unfold pj doA;rw [ag (by rw [nY.out];decide),ag mX,ag mX]);obtain ⟨zk,hzk⟩:∃z:Int,z = (x.k:Int):=⟨_,rfl⟩;rw [← hzk] at r0 d0;clear mX hzk q1 qf1 q7;go_upto_region 6 with (fail)
   clear r0 d0 l4;go_wp2_with (first|refine ef (b:=b7) (x:=RR.1) (v:=.slice A5 k5 c5) rfl _ rfl rfl HX7.out ?_|refine bu (b:=b6) (x:=zRs) (v:=zV) (y:=RR.1) (u:=.slice A5 k5 c5) rfl _ _ rfl rfl rfl rfl (lS.out wc qD.out) ?_;intro W6 h6 kF);refine bodyPost_ret (v:=.agg (rsc RR.1 (.slice A5 k5 c5))) (results_cell_row (p:=6) (ty:=40) rfl _ _ b6 40 _ (0,0) _ rfl h6 Tryz.underlying40 rfl dq) rfl ?_;have h36:=kL.out.size;have h62:=HZ2.out;exact ⟨⟨A5,k5,c5,rfl,RE.chg Fm.out kF (fun y hy Bj=>by obtain rfl:=aa Bj;have:=HO7.out _ hy;omega),fun i hi=>au (lE.out.stay kL.out).size (HO7.out i (by first | exact hi | exact ip.2 hi))⟩,(lE.out.stay qD.out).trans kF (fun y hy=>.inr (by obtain rfl:=aa hy;have:=HE.out;omega))⟩
theorem bT (m:List Ar.Rn):0≤Ar.setE m∧Ar.setE m≤200:=by unfold Ar.setE;split <;> decide
theorem mdE_le (l:List Ar.Rn) (p c:Int):0≤Ar.mdE l p c∧Ar.mdE l p c≤200:=by
 unfold Ar.mdE;split
 ·decide
 ·split <;> decide
theorem iZ (p:Pr) (x:Cl):0≤(db p x).1∧(db p x).1≤200:=by
 unfold db;split
 ·show 0≤Ar.mapE _ _ _ _∧Ar.mapE _ _ _ _≤200;unfold Ar.mapE;split
  ·decide
  ·split
   ·decide
   ·exact bT _
 split
 ·show 0≤Ar.unE _ _ _∧Ar.unE _ _ _≤200;unfold Ar.unE;split
  ·decide
  ·exact bT _
 ·show 0≤Ar.prE _ _ _ _∧Ar.prE _ _ _ _≤200;unfold Ar.prE;split
  ·decide
  ·split
   ·exact mdE_le _ _ _
   ·exact bT _
theorem proc_le (h:MoOk M) (x:Cl) {p:Pr} (hp:M.pr x.p = some p):(0≤(dc M x 0 p).1.e∧(dc M x 0 p).1.e≤200)∧(dc M x 0 p).1.v < 18446744073709551616:=by
 obtain ⟨-,-,-,-,FH,wU,how⟩:=h.pr x.p p hp;have h0:(0:Int)≤0∧(0:Int)≤200:=by decide
 have h7:(0:Int)≤7∧(7:Int)≤200:=by decide
 have hv:(0:Nat) < 18446744073709551616:=by decide
 unfold dc;split
 ·exact ⟨h0,hv⟩
 split
 ·exact ⟨h0,hv⟩
 split
 ·refine ⟨h0,?_⟩;show (ku p x.g).1 * 256+(ku p x.g).2 < _;have:(ku p x.g).1 < 256∧(ku p x.g).2 < 256:=by
   unfold ku;cases hq:p.ow x.g with
   | none=>exact ⟨FH,wU⟩
   | some u=>exact how _ _ hq
  omega
 split
 ·exact ⟨iZ p x,hv⟩
 split
 ·have he:=acc_e p x;refine ⟨?_,?_⟩
  ·show 0≤(dt p x).1.e∧(dt p x).1.e≤200;omega
  ·show (dt p x).1.v < _;have:(dt p x).1.v = 0:=by
    unfold dt;simp only
    repeat' split
    all_goals rfl
   omega
 split
 ·exact ⟨h7,hv⟩
 split
 ·refine ⟨h0,?_⟩;show min 0 _ < _;rw [Nat.zero_min];exact hv
 split
 ·exact ⟨h0,hv⟩
 ·exact ⟨h0,hv⟩
theorem ans_le (h:MoOk M) (x:Cl) (mX:x.k≠10):(0≤(cj M x 0).1.e∧(cj M x 0).1.e≤200)∧(cj M x 0).1.v < 18446744073709551616:=by
 have h0:(0:Int)≤0∧(0:Int)≤200:=by decide
 have h7:(0:Int)≤7∧(7:Int)≤200:=by decide
 have hv:(0:Nat) < 18446744073709551616:=by decide
 unfold cj;split
 ·unfold jf;split
  ·rename_i z hz;refine ⟨h0,?_⟩;show z.toNat < _;have:=List.mem_of_find?_eq_some hz;unfold pids at this;simp at this;omega
  ·exact ⟨by decide,hv⟩
 split
 ·unfold gj;split
  ·exact ⟨by decide,hv⟩
  ·split
   ·exact ⟨h0,hv⟩
   split
   ·exact ⟨by decide,hv⟩
   split
   ·exact ⟨h0,hv⟩
   ·exact ⟨h0,hv⟩
 split
 ·exact ⟨h0,hv⟩
 split
 ·exact ⟨h7,hv⟩
 ·rename_i p hp;exact proc_le h x hp
theorem ansR_Ok (h:MoOk M) (x:Cl) {f:Nat} (hf:f < 18446744073709551616):(pj M x f).Ok:=by
 refine ⟨?_,?_,ansR_ok h x f⟩
 ·unfold pj;split
  ·exact ⟨by decide,by decide⟩
  split
  ·exact (show (-9223372036854775808:Int)≤0∧(0:Int)≤9223372036854775807 by decide)
  ·rename_i mX;have:=(ans_le h x mX).1;omega
 ·unfold pj;split
  ·exact (by decide:(0:Nat) < 18446744073709551616)
  split
  ·exact hf
  ·rename_i mX;exact (ans_le h x mX).2
structure MW (W0 w:World) (m d:Nat) (M D:Mo) (N:Nat) (O P:Nat→Prop):Prop where
 mm:MMem w m M O
 wn:WN w d D P N
 go:∀k,O k→W0.heap.size≤k
 gp:∀k,P k→W0.heap.size≤k
 dj:∀k,O k→¬ P k
 ok:MoOk D
 ev:EvOk D
 chg:Chg [] W0 w
section
variable {W0 w w':World} {m d:Nat} {M D:Mo} {N:Nat} {O P:Nat→Prop}
theorem MW.stay (h:MW W0 w m d M D N O P) (hc:Chg [] w w'):MW W0 w' m d M D N O P:=⟨h.mm.stay hc,h.wn.stay hc,h.go,h.gp,h.dj,h.ok,h.ev,h.chg.stay hc⟩
theorem MW.answer (h:MW W0 w m d M D N O P) (hN:N≤400000) {x:Cl} {v:Value} (hx:x.Ok) (hv:RB w v x.l) (f:Nat) :
  Calls Tryz.prog 17 #[.pointer (some ⟨d,0,none⟩),.agg (clc x v),.int .u64 f] w fun e w'=>(∃A k c,e = .returned (.agg (rsc (pj D x f) (.slice A k c)))∧RB w' (.slice A k c) (pj D x f).l∧∀i∈own (.slice A k c),w.heap.size≤i)∧Chg [] w w':=dG h.wn hN h.ok hx hv f
theorem MW.put (h:MW W0 w m d M D N O P) {F:List Nat} (hc:Chg F w w') (hF:∀k∈F,¬ O k∧¬ P k∧W0.heap.size≤k):MW W0 w' m d M D N O P :=
 ⟨h.mm.cp (CP.of (F:=fun k=>k∈F) hc (fun k hk=>.inl hk)) (fun k ho hk=>(hF k hk).1 ho),h.wn.cp (CP.of (F:=fun k=>k∈F) hc (fun k hk=>.inl hk)) (fun k hp hk=>(hF k hk).2.1 hp),h.go,h.gp,h.dj,h.ok,h.ev,h.chg.trans hc (fun k hk=>.inr (hF k hk).2.2)⟩
end
theorem MW.made {W0 w1:World} {d:Nat} (nG:Chg [] W0 w) (h1:MMem w1 m (np c) O) (h2:∀k,O k→w.heap.size≤k) (kO:Chg [] w w1) (h3:WN w2 d (np c) (fun k=>k = d) 0) (h4:w1.heap.size≤d) (kI:Chg [] w1 w2):MW W0 w2 m d (np c) (np c) 0 O (fun k=>k = d):=by have hs:=nG.size;have rY:=kO.size;exact ⟨h1.stay kI,h3,fun k hk=>by have:=h2 k hk;omega,fun k hk=>by omega,fun k ho hk=>by have:=h1.lt k ho;omega,h1.ok,EvOk.new c,(nG.stay kO).stay kI⟩
theorem wt (oV:MoOk M) {z q:Int} (h:¬ ((M.pr z).isSome = true∧0≤q∧q < 1024)):rtA M z q = 0:=by
 unfold rtA;cases hp:M.pr z with
 | none=>rfl
 | some p =>
  have hs:=(oV.pr z p hp).2.1;rw [hp] at h;show Ar.rt p.rl q = 0;rcases Int.lt_or_le q 0 with h0 | h0
  ·exact Ar.rt_lo hs.nm h0
  ·exact hs.hi q (by simp at h;omega)
def EvZ (M:Mo):Prop:=M.ev 0 = false
theorem EvZ.new (c:Cf):EvZ (np c):=rfl
theorem EvZ.ans {M':Mo} (h:EvZ M) {v:Nat} (e:(cj M x v).2 = some M'):EvZ M':=by
 unfold cj at e;split at e
 ·unfold jf at e;split at e
  ·obtain rfl:=aq e;exact h
  ·cases e
 split at e
 ·unfold jg at e;split at e
  ·cases e
  ·rename_i hv;obtain rfl:=aq e;show upd M.ev v true 0 = false;unfold upd;rw [ag (fun e0=>hv (.inl (by omega)))];exact h
 split at e
 ·unfold gj at e
  repeat' split at e
  all_goals first
   | cases e;done
   | (obtain rfl:=aq e;exact h)
 split at e
 ·cases e
 split at e
 ·cases e
 ·unfold dc at e
  repeat' split at e
  all_goals first
   | cases e;done
   | (obtain rfl:=aq e;exact h)
   | (simp only [Option.map_eq_some_iff] at e;obtain ⟨q,-,rfl⟩:=e;exact h)
theorem EvZ.step (h:EvZ M) (x:Cl) (r:Rs):EvZ (ie M x r):=by
 unfold ie;split
 ·exact h
 ·cases ha:(cj M x r.v).2 with
  | none=>exact h
  | some M'=>exact h.ans ha
theorem ob_nz (h:EvOk M) (hz:EvZ M) {z:Int} (ho:(M.ob z).isSome = true):z≠0:=by
 rintro rfl;cases hb:M.ob 0 with
 | none=>rw [hb] at ho;cases ho
 | some B=>have:=h 0 B hb;unfold EvZ at hz;rw [hz] at this;cases this
section
variable {w:World} {d:Nat} {M:Mo} {sp:Nat→Option Nat} {vo ve:Value} {L:List Ob} {E:List Nat} {gb gm:Nat→Nat} {gs:Nat→Sq}
theorem find_h {L:List Ob} (hn:L.Pairwise fun a b=>a.h≠b.h) {k:Nat} (hk:k < L.length):L.find? (fun o=>decide ((o.h:Int) = ((L[k].h:Nat):Int))) = some L[k]:=by
 induction L generalizing k with
 | nil=>simp at hk
 | cons a L ih =>
  rw [List.pairwise_cons] at hn;cases k with
  | zero=>simp
  | succ k =>have mG:k < L.length:=(by simpa using hk);have kT:a.h≠L[k].h:=hn.1 _ (ao mG);simp only [List.getElem_cons_succ,List.find?_cons];have:decide ((a.h:Int) = ((L[k].h:Nat):Int)) = false:=ac (by omega);rw [this];exact ih hn.2 mG
theorem OIn.atk {ob:Int→Option (List Nat)} (h:OIn w vo L ob) {k:Nat} (hk:k < L.length):ob ((L[k].h:Nat):Int) = some L[k].l:=by rw [h.lk,find_h h.nd hk];rfl
theorem OIn.of_ {ob:Int→Option (List Nat)} (h:OIn w vo L ob) {z:Int} (hz:(ob z).isSome = true):∃k,∃hk:k < L.length,((L[k].h:Nat):Int) = z:=by
 rw [h.lk] at hz;cases hf:L.find? (fun o=>decide ((o.h:Int) = z)) with
 | none=>rw [hf] at hz;cases hz
 | some o =>obtain ⟨k,hk,e⟩:=List.getElem_of_mem (List.mem_of_find?_eq_some hf);have:=List.find?_some hf;exact ⟨k,hk,by rw [e];simpa using this⟩
theorem nodup_hs {L:List Ob} (hn:L.Pairwise fun a b=>a.h≠b.h):(L.map (·.h)).Nodup:=by unfold List.Nodup;rw [List.pairwise_map];exact hn
theorem iO {l m:List Nat} (hl:l.Nodup) (h:∀x∈l,x∈m):l.length≤m.length:=by
 induction l generalizing m with
 | nil=>simp
 | cons a l ih =>
  rw [List.nodup_cons] at hl;have ha:=h a (List.mem_cons_self ..);have h1:∀x∈l,x∈m.erase a:=fun x hx=>by have kT:x≠a:=fun e=>hl.1 (e ▸ hx);exact (List.mem_erase_of_ne kT).2 (h x (List.mem_cons_of_mem _ hx))
  have h2:=ih hl.2 h1;rw [List.length_erase_of_mem ha] at h2;have h3:0 < m.length:=List.length_pos_of_mem ha;simp;omega
theorem OIn.card {ob:Int→Option (List Nat)} (h:OIn w vo L ob) {ks:List Nat} (hn:ks.Nodup) (hk:∀x∈ks,(ob (x:Nat)).isSome = true):ks.length≤L.length:=by
 have:=iO (m:=L.map (·.h)) hn (fun x hx=>by
  obtain ⟨k,hk,e⟩:=h.of_ (hk x hx)
  exact List.mem_map.2 ⟨L[k],ao hk,by omega⟩)
 simpa using this
theorem OIn.card_eq {ob:Int→Option (List Nat)} (h:OIn w vo L ob) {ks:List Nat} (hn:ks.Nodup) (hk:∀z:Int,(ob z).isSome = true↔∃x∈ks,(x:Int) = z):ks.length = L.length:=by
 refine Nat.le_antisymm (h.card hn (fun x hx=>(hk _).2 ⟨x,hx,rfl⟩)) ?_;have:=iO (m:=ks) (nodup_hs h.nd) (fun x hx=>by
  obtain ⟨o,ho,rfl⟩:=List.mem_map.1 hx
  obtain ⟨k,rU,rfl⟩:=List.getElem_of_mem ho
  obtain ⟨y,hy,e⟩:=(hk ((L[k].h:Nat):Int)).1 (by rw [h.atk rU];rfl)
  have:y = L[k].h:=by omega
  exact this ▸ hy)
 simpa using this
theorem OIn.nat {ob:Int→Option (List Nat)} (h:OIn w vo L ob) {z:Int} (hz:(ob z).isSome = true):∃y:Nat,z = (y:Int):=by obtain ⟨k,hk,e⟩:=h.of_ hz;exact ⟨_,e.symm⟩
end
noncomputable def ansT (D:Mo) (t:Tw):Rs:=if t.rt = true then pj D t.x t.h else t.r
variable {t:Tw}
theorem TB.cellJ (h:TB w b t) {j:Nat} (hu:(twl t)[j]? = some u):w.cell? ⟨b,j,none⟩ = some u:=(h.cell j).trans (by rw [List.getElem?_toArray];exact hu)
theorem TB.stay (h:TB w b t) (hc:Chg [] w w'):TB w' b t:=aw h hc ab
variable {P:Nat→Prop}
theorem eS {W0:World} {d:Nat} {D:Mo} (h:MW W0 w m d M D N O P) (hN:N≤400000) (ht:TwOk w t) :
  Calls Tryz.prog 10 #[.pointer (some ⟨d,0,none⟩),.agg (twl t).toArray] w fun e w'=>(∃A k c,e = .returned (.agg (rsc (ansT D t) (.slice A k c)))∧RB w' (.slice A k c) (ansT D t).l∧∀i∈own (.slice A k c),w.heap.size≤i∨(ansT D t = t.r∧i∈own t.u))∧Chg [] w w':=by
 obtain ⟨RR,lJ⟩:∃RR,RR = ansT D t:=⟨_,rfl⟩;rw [← lJ];have kH:=bk lJ;clear lJ;obtain ⟨W2,kJ⟩:∃W2,W2 = (w.alloc (.cells (twl t).toArray 49)).alloc (.cells (rsc zRs zV) 40):=⟨_,rfl⟩;have kI:Chg [] w W2:=by rw [kJ];exact ((av [] w).alloc _).alloc _
 obtain ⟨b3,lD⟩:∃b,b = w.heap.size:=⟨_,rfl⟩;obtain ⟨b4,lZ⟩:∃b,b = w.heap.size+1:=⟨_,rfl⟩;have hT:TB W2 b3 t:=by rw [kJ,lD];exact (ax w _ _).alloc _
 have hX:XB W2 b4 zRs zV:=by
  have:=ax (w.alloc (.cells (twl t).toArray 49)) 40 (rsc zRs zV);rw [af] at this;rw [kJ,lZ];exact this
 have HT:=bk (fun W (h:Chg [] W2 W)=>hT.stay h);have HX:=bk (fun W (h:Chg [] W2 W)=>(show XB W b4 zRs zV from bf hX h));have HA:=bk (fun W (hc:Chg [] W2 W)=>((h.stay kI).stay hc).answer hN ht.x (ht.v.stay (kI.stay hc)) t.h);have HU:=bk (fun W (hc:Chg [] W2 W)=>ht.u.stay (kI.stay hc));have HUL:=bk (show t.r.l≠[]→∀y∈own t.u,y < w.heap.size from fun h=>RB.own_lt ht.u h);have HC:=bk kI;have HW:=bk kJ;have HB:=bk (ai lD lZ);clear h ht hT hX kI kJ lD lZ hN;go_enter Tryz.func10,Tryz.ntmps10;go_upto_region 1 with (first|refine cA rfl _ rfl rfl ?_|refine ck rfl rfl ?_;try go_simp)
 rw [← HW.out,← HB.out.2,← HB.out.1];have q15:=(HT.out W2 (av _ _)).cellJ (j:=15) (u:=.bool t.rt) rfl;have q16:=(HT.out W2 (av _ _)).cellJ (j:=16) (u:=.int .u64 t.h) rfl;have l3:=bb (HT.out W2 (av _ _));have hX:=(HT.out W2 (av _ _)).loadX;have hR:=(HT.out W2 (av _ _)).loadR;have hTT:=HT.out W2 (av _ _);cases qS:t.rt with
 | true =>
  rw [qS] at q15;obtain rfl:RR = pj D t.x t.h:=by rw [kH.out];unfold ansT;rw [ah qS]
  clear qS hTT hR;go_wp2_with (first|refine em (ty:=47) (ad:=⟨b3,0,none⟩) (v:=.agg (clc t.x t.v)) rfl _ rfl rfl ?_ ?_;(focus exact hX));refine (HA.out W2 (av _ _)).mono ?_;rintro e W3 ⟨⟨A,k,c,rfl,hb,pC⟩,kM⟩;have uU:=bk (HX.out W3 kM);have xB:=bk (ai hb (ai pC kM));clear hb pC kM;go_wp2_with (first|refine bu (b:=b4) (x:=zRs) (v:=zV) (y:=pj D t.x t.h) (u:=.slice A k c) rfl _ _ rfl rfl rfl rfl uU.out ?_;intro W4 h4 kZ);refine bodyPost_ret (v:=.agg (rsc (pj D t.x t.h) (.slice A k c))) (results_cell_row (p:=4) (ty:=40) rfl _ _ b4 40 _ (0,0) _ rfl h4 Tryz.underlying40 rfl dq) rfl ⟨⟨A,k,c,rfl,xB.out.1.chg kZ (fun y hy hm=>?_),fun i hi=>.inl (au HC.out.size (xB.out.2.1 i hi))⟩,(HC.out.stay xB.out.2.2).trans kZ (fun y hy=>.inr (by obtain rfl:=aa hy;have:=HB.out.2;omega))⟩;obtain rfl:=aa hm;have h1:=xB.out.2.1 _ hy;have h2:=bb (HX.out W2 (av _ _));omega
 | false =>
  rw [qS] at q15;obtain rfl:RR = t.r:=by rw [kH.out];unfold ansT;rw [ag (by rw [qS];decide)]
  obtain ⟨A,c,hu⟩:=RE.form (HU.out W2 (av _ _));have HUU:=bk hu;rw [hu] at hR;clear qS hTT hX hu;go_wp2_with (first|refine em (ty:=40) (ad:=⟨b3,12,none⟩) (v:=.agg (rsc t.r (.slice A t.r.l.length c))) rfl _ rfl rfl ?_ ?_;(focus exact hR)|refine bu (b:=b4) (x:=zRs) (v:=zV) (y:=t.r) (u:=.slice A t.r.l.length c) rfl _ _ rfl rfl rfl rfl (HX.out W2 (av _ _)) ?_;intro W4 h4 kZ);have hub:=HU.out W2 (av _ _);rw [HUU.out] at hub;refine bodyPost_ret (v:=.agg (rsc t.r (.slice A t.r.l.length c))) (results_cell_row (p:=4) (ty:=40) rfl _ _ b4 40 _ (0,0) _ rfl h4 Tryz.underlying40 rfl dq) rfl ⟨⟨A,_,c,rfl,?_,fun i hi=>.inr (by first | exact ⟨rfl,by rw [HUU.out];exact hi⟩|(rw [HUU.out];exact hi))⟩,HC.out.trans kZ (fun y hy=>.inr (by obtain rfl:=aa hy;have:=HB.out.2;omega))⟩;have hb:=HX.out W2 (av _ _);by_cases hl:t.r.l = []
  ·rw [hl] at hub ⊢;obtain ⟨h1,A',c',e',Bx,pY⟩:=hub;exact ⟨h1,A',c',e',Bx,fun h=>absurd h (by simp)⟩
  ·refine hub.chg kZ fun y hy hm=>?_;obtain rfl:=aa hm;have h1:=HUL.out hl _ (by rw [HUU.out];exact hy);have h2:=HB.out.2;omega
theorem New_no (hc:mayB c = false) :
    Calls Tryz.prog 8 #[.agg (cg c)] w fun e w'=>e = .returned (.tuple #[.pointer none,.int .i64 2])∧Chg [] w w':=by
  obtain ⟨W2,kJ⟩:∃W2,W2 = w.alloc (.cells (cg c) 26):=⟨_,rfl⟩;have hb:CB W2 w.heap.size c:=by rw [kJ];exact ax w 26 _
  have HB:=bk hb;have HC:=bk (show Chg [] w W2 by rw [kJ];exact (av [] w).alloc _);have kW:=bk kJ;have HM:=bk (fun W=>wi c W);rw [hc] at HM;clear hb kJ hc;go_enter Tryz.func8,Tryz.ntmps8;go_wp2_with (first|refine da rfl _ rfl rfl ?_;try rw [← kW.out]|refine dd (b:=w.heap.size) (c:=c) rfl _ rfl rfl ?_ ?_;(focus exact HB.out));refine (HM.out _).mono ?_;rintro e W3 ⟨rfl,kM⟩;have kL:=bk (HC.out.stay kM);clear kM;go_wp2_with fail;go_ret2;exact ⟨rfl,kL.out⟩
variable {l:List Nat}
theorem iP {a n:Nat} (h:l.length≤n):((l.drop a).take b).length≤n:=by rw [List.length_take,List.length_drop];omega
theorem ans_len (h:MoOk M) (x:Cl) (v:Nat):(cj M x v).1.l.length≤256:=by
  have nl:∀(R:Rs),R.l = []→R.l.length≤256:=fun R h=>by rw [h];decide
  unfold cj;split
  · refine nl _ ?_
    unfold jf
    split <;> rfl
  split
  · refine nl _ ?_
    unfold jg
    split <;> rfl
  split
  · unfold gj
    cases hb:M.ob x.h with
    | none=>exact nl _ rfl
    | some B =>
      have:=(h.ob _ _ hb).2;simp only;split
      · exact nl _ rfl
      split
      · exact nl _ rfl
      split
      · exact iP (by omega)
      · exact nl _ rfl
  split
  · exact nl _ rfl
  cases hp:M.pr x.p with
  | none=>exact nl _ rfl
  | some p =>
    simp only;have qG:=(h.pr _ p hp).2.2.1 (x.a / 256);unfold jl at qG;unfold dc
    repeat' split
    all_goals first
      | exact nl _ rfl
      | (unfold dt
         simp only
         repeat' split
         all_goals first
           | exact nl _ rfl
           | exact iP (by omega))
theorem ansR_len (h:MoOk M) (x:Cl) (f:Nat):(pj M x f).l.length≤256:=by
  unfold pj;split
  · exact (by decide:([]:List Nat).length≤256)
  split
  · exact (by decide:([]:List Nat).length≤256)
  · exact ans_len h x 0
theorem tw_ldT {g off n c:Nat} {l:List Tw} (h:RE twl 17 w (.slice (some ⟨g,off,none⟩) n c) l) {k:Nat} (hk:k < l.length):(loadVar 49 ⟨g,off+k * 17,none⟩).run Tryz.prog w = .ok (.agg (twl l[k]).toArray) w:=by
  have:=run_loadVar_mid (P:=Tryz.prog) w g (off+k * 17) 49 (twl l[k]) _ (fun j v hv=>by
    have hj:j < 17:=(List.getElem?_eq_some_iff.1 hv).1
    exact ui h hk hj hv) Tryz.underlying49 rfl info47
  exact this
theorem RB.cpk {F:Nat→Prop} (h:RB w v l) (hc:CP F w w') (hF:l≠[]→∀k∈own v,¬ F k):RB w' v l:=by
  by_cases hl:l = []
  · subst hl
    obtain ⟨h1,A',c',e',Bx,pY⟩:=h
    exact ⟨h1,A',c',e',Bx,fun h=>absurd h (by simp)⟩
  · have kG:=RB.own_lt h hl
    obtain ⟨G,g1,g2⟩:=hc.avoid (own v) (hF hl) kG
    exact RE.chg h g1 g2
section
variable {W0 w w':World} {m d:Nat} {M D:Mo} {N:Nat} {O P:Nat→Prop}
theorem MW.stepC (h:MW W0 w m d M D N O P) (hf:FW W0) {x:Cl} {v:Value} {r:Rs} {u:Value} (hx:x.Ok) (hv:RB w v x.l) (hr:r.Ok) (hu:RB w u r.l) :
    Calls Tryz.prog 11 #[.pointer (some ⟨m,0,none⟩),.agg (clc x v),.agg (rsc r u)] w fun e w'=>e = .returned (.bool (jn M x r))∧CP O w w'∧∃O',MW W0 w' m d (ie M x r) D N O' P∧∀k,O' k→O k∨w.heap.size≤k:=by
  refine (cM h.mm (hf.stay h.chg) hx hv hr hu).mono ?_;rintro e w' ⟨rfl,nN,O',k2,k3⟩;have mW:=h.chg.size;obtain ⟨F,g1,g2⟩:=id nN;exact ⟨rfl,nN,O',⟨k2,h.wn.cp nN (fun k hp ho=>h.dj k ho hp),fun k hk=>(k3 k hk).elim (h.go k) (fun h=>by omega),h.gp,fun k ho hp=>(k3 k ho).elim (fun h'=>h.dj k h' hp) (fun h'=>by have:=h.wn.lt k hp;omega),h.ok,h.ev,h.chg.trans g1 (fun k hk=>.inr ((g2 k hk).elim (h.go k) (fun h=>by omega)))⟩,k3⟩
theorem MW.rstepC (h:MW W0 w m d M D N O P) (hN:N≤400000) {x:Cl} {v:Value} {r:Rs} {u:Value} (hx:x.Ok) (hv:RB w v x.l) (hr:r.Ok) (hu:RB w u r.l) (hM:ie D x r = M) :
    Calls Tryz.prog 12 #[.pointer (some ⟨d,0,none⟩),.agg (clc x v),.agg (rsc r u)] w fun e w'=>e = .returned (.bool (jn D x r))∧CP P w w'∧∃P',MW W0 w' m d M M (N+1) O P'∧∀k,P' k→P k∨w.heap.size≤k:=by
  refine (jU h.wn hN h.ok h.ev hx hv hr hu).mono ?_;rintro e w' ⟨rfl,nN,P',k2,k3⟩;rw [hM] at k2;have mW:=h.chg.size;obtain ⟨F,g1,g2⟩:=id nN;exact ⟨rfl,nN,P',⟨h.mm.cp nN (fun k ho hp=>h.dj k ho hp),k2,h.go,fun k hk=>(k3 k hk).elim (h.gp k) (fun h=>by omega),fun k ho hp=>(k3 k hp).elim (fun h'=>h.dj k ho h') (fun h'=>by have:=h.mm.lt k ho;omega),h.mm.ok,by rw [← hM];exact h.ev.step x r,h.chg.trans g1 (fun k hk=>.inr ((g2 k hk).elim (h.gp k) (fun h=>by omega)))⟩,k3⟩
end
theorem KB.set11 (h:KB w b x v) (u:Value):KB (w.setCell ⟨b,11,none⟩ u) b x u:=Blk.set_ h 11 u
def FB (W1 w:World) (O P:Nat→Prop) (b:Nat):Prop:=W1.heap.size≤b∧b < w.heap.size∧¬ O b∧¬ P b
theorem FB.of {W1:World} {d:Nat} {D:Mo} (h:MW W1 w m d M D N O P) {W:World} (h1:w.heap.size≤b) (h2:b < W.heap.size):FB W1 W O P b :=
  ⟨by have:=h.chg.size;omega,h2,fun ho=>by have:=h.mm.lt b ho;omega,fun hp=>by have:=h.wn.lt b hp;omega⟩
theorem FB.next {W1:World} {O' P':Nat→Prop} (h:FB W1 w O P b) (hs:w.heap.size≤w'.heap.size) (hO:∀k,O' k→O k∨w.heap.size≤k) (hP:∀k,P' k→P k∨w.heap.size≤k):FB W1 w' O' P' b :=
  ⟨h.1,by have:=h.2.1;omega,fun ho=>(hO b ho).elim h.2.2.1 (fun h'=>by have:=h.2.1;omega),fun hp=>(hP b hp).elim h.2.2.2 (fun h'=>by have:=h.2.1;omega)⟩
structure SR (W1 W:World) (b10 b11 b12:Nat) (x:Cl) (r:Rs) (xs is_ rs:Value):Prop where
 hc:Chg [] W1 W
 hk:KB W b11 x xs
 hi:XB W b12 r is_
 hr:XB W b10 r rs
structure ST (W1 W:World) (O P:Nat→Prop) (b10 b11 b12:Nat) (x:Cl) (r:Rs) (xs is_ rs:Value):Prop where
 s:SR W1 W b10 b11 b12 x r xs is_ rs
 sx:SB W xs x.l
 si:SB W is_ r.l
 rr:RB W rs r.l
 f0:FB W1 W O P b10
 f1:FB W1 W O P b11
 f2:FB W1 W O P b12
 fx:∀y∈own xs,FB W1 W O P y
 fi:∀y∈own is_,FB W1 W O P y
 fr:r.l≠[]→∀y∈own rs,¬ O y∧¬ P y
section
variable {W1 W W':World} {O P O' P':Nat→Prop} {b10 b11 b12:Nat} {x:Cl} {r:Rs} {xs is_ rs:Value}
theorem ST.next {F:Nat→Prop} (h:ST W1 W O P b10 b11 b12 x r xs is_ rs) (nN:CP F W W') (hF:∀k,F k→O k∨P k) (hO:∀k,O' k→O k∨W.heap.size≤k) (hP:∀k,P' k→P k∨W.heap.size≤k) (h1:Chg [] W1 W'):ST W1 W' O' P' b10 b11 b12 x r xs is_ rs:=by have hn:∀b,FB W1 W O P b→¬ F b:=fun b hb hf=>(hF b hf).elim hb.2.2.1 hb.2.2.2;have mW:=nN.size;obtain ⟨G,g1,g2⟩:=nN.avoid (own xs) (fun y hy=>hn y (h.fx y hy)) (fun y hy=>(h.fx y hy).2.1);obtain ⟨G',g1',g2'⟩:=nN.avoid (own is_) (fun y hy=>hn y (h.fi y hy)) (fun y hy=>(h.fi y hy).2.1);refine ⟨⟨h1,Blk.cp h.s.hk nN (hn _ h.f1),Blk.cp h.s.hi nN (hn _ h.f2),Blk.cp h.s.hr nN (hn _ h.f0)⟩,SE.chg h.sx g1 g2,SE.chg h.si g1' g2',RB.cpk h.rr nN (fun hl y hy hf=>(hF y hf).elim (h.fr hl y hy).1 (h.fr hl y hy).2),h.f0.next mW hO hP,h.f1.next mW hO hP,h.f2.next mW hO hP,fun y hy=>(h.fx y hy).next mW hO hP,fun y hy=>(h.fi y hy).next mW hO hP,fun hl y hy=>?_⟩;have Bj:=RB.own_lt h.rr hl y hy;exact ⟨fun ho=>(hO y ho).elim (h.fr hl y hy).1 (fun h'=>by omega),fun hp=>(hP y hp).elim (h.fr hl y hy).2 (fun h'=>by omega)⟩
theorem ST.stay (h:ST W1 W O P b10 b11 b12 x r xs is_ rs) (hc:Chg [] W W'):ST W1 W' O P b10 b11 b12 x r xs is_ rs :=
 h.next (F:=fun _=>False) (CP.of0 hc) (fun _ h=>h.elim) (fun _ h=>.inl h) (fun _ h=>.inl h) (h.s.hc.stay hc)
end
structure SL (W1 W:World) (m d:Nat) (M:Mo) (N:Nat) (O P:Nat→Prop) (b11 b12:Nat) (x:Cl) (r:Rs) (A:Option Addr) (n c:Nat) (A2:Option Addr) (n2 c2:Nat):Prop where
 mw:MW W1 W m d M M N O P
 hk:KB W b11 x (.slice A n c)
 hi:XB W b12 r (.slice A2 n2 c2)
 sx:∃B:List Nat,B.length = n∧SB W (.slice A n c) B
 si:∃B:List Nat,B.length = n2∧SB W (.slice A2 n2 c2) B
 fx:∀y∈own (.slice A n c),¬ O y∧¬ P y∧W1.heap.size≤y∧y≠b11∧y≠b12∧y∉own (.slice A2 n2 c2)
 fi:∀y∈own (.slice A2 n2 c2),¬ O y∧¬ P y∧W1.heap.size≤y∧y≠b11∧y≠b12
section
variable {W1 W:World} {m d:Nat} {M:Mo} {N:Nat} {O P:Nat→Prop} {b11 b12:Nat} {x:Cl} {r:Rs} {A A2:Option Addr} {n c n2 c2:Nat}
theorem SL.setx (h:SL W1 W m d M N O P b11 b12 x r A n c A2 n2 c2) {q:Nat} (hq:q < n):∃g off y,A = some ⟨g,off,none⟩∧W.cell? ⟨g,off+q,none⟩ = some (.int .u8 (y:Nat))∧W.frozen? ⟨g,off+q,none⟩ = false ∧
  ∀y':Nat,SL W1 (W.setCell ⟨g,off+q,none⟩ (.int .u8 (y':Nat))) m d M N O P b11 b12 x r A n c A2 n2 c2:=by
 obtain ⟨B,Ce,wB⟩:=h.sx;obtain ⟨g,off,rfl⟩:=SE.addr wB (by omega);have hg:=h.fx g (by simp [own,Value.ownBlock]);refine ⟨g,off,B[q]'(by omega),rfl,?_,SE.frozen wB (off+q),fun y'=>?_⟩
 ·have:=RE.cell gk (SE.re wB) (show q < B.length by omega) (j:=0) (u:=.int .u8 (B[q]:Nat)) Nat.zero_lt_one rfl;simpa using this
 ·have hc:Chg [g] W (W.setCell ⟨g,off+q,none⟩ (.int .u8 (y':Nat))):=(av [g] W).setCell (p:=⟨g,off+q,none⟩) (.inl (by simp)) _;refine ⟨h.mw.put hc (fun k hk=>by obtain rfl:=aa hk;exact ⟨hg.1,hg.2.1,hg.2.2.1⟩),aw h.hk hc (by simp;exact fun e=>hg.2.2.2.1 e.symm),aw h.hi hc (by simp;exact fun e=>hg.2.2.2.2.1 e.symm),⟨B.set q y',by simp;exact Ce,?_⟩,?_,h.fx,h.fi⟩
  ·have:=SE.set gk wB (show q < B.length by omega) (j:=0) (u:=.int .u8 (y':Nat)) (x:=y') Nat.zero_lt_one rfl;simpa using this
  ·obtain ⟨B2,lH,lV⟩:=h.si;exact ⟨B2,lH,SE.chg lV hc (fun y hy hm=>by obtain rfl:=aa hm;exact hg.2.2.2.2.2 hy)⟩
theorem SL.seti (h:SL W1 W m d M N O P b11 b12 x r A n c A2 n2 c2) {q:Nat} (hq:q < n2):∃g off y,A2 = some ⟨g,off,none⟩∧W.cell? ⟨g,off+q,none⟩ = some (.int .u8 (y:Nat))∧W.frozen? ⟨g,off+q,none⟩ = false ∧
  ∀y':Nat,SL W1 (W.setCell ⟨g,off+q,none⟩ (.int .u8 (y':Nat))) m d M N O P b11 b12 x r A n c A2 n2 c2:=by
 obtain ⟨B,Ce,wB⟩:=h.si;obtain ⟨g,off,rfl⟩:=SE.addr wB (by omega);have hg:=h.fi g (by simp [own,Value.ownBlock]);refine ⟨g,off,B[q]'(by omega),rfl,?_,SE.frozen wB (off+q),fun y'=>?_⟩
 ·have:=RE.cell gk (SE.re wB) (show q < B.length by omega) (j:=0) (u:=.int .u8 (B[q]:Nat)) Nat.zero_lt_one rfl;simpa using this
 ·have hc:Chg [g] W (W.setCell ⟨g,off+q,none⟩ (.int .u8 (y':Nat))):=(av [g] W).setCell (p:=⟨g,off+q,none⟩) (.inl (by simp)) _;refine ⟨h.mw.put hc (fun k hk=>by obtain rfl:=aa hk;exact ⟨hg.1,hg.2.1,hg.2.2.1⟩),aw h.hk hc (by simp;exact fun e=>hg.2.2.2.1 e.symm),aw h.hi hc (by simp;exact fun e=>hg.2.2.2.2 e.symm),?_,⟨B.set q y',by simp;exact Ce,?_⟩,h.fx,h.fi⟩
  ·obtain ⟨B2,lH,lV⟩:=h.sx;exact ⟨B2,lH,SE.chg lV hc (fun y hy hm=>by obtain rfl:=aa hm;exact (h.fx _ hy).2.2.2.2.2 (by simp [own,Value.ownBlock]))⟩
  ·have:=SE.set gk wB (show q < B.length by omega) (j:=0) (u:=.int .u8 (y':Nat)) (x:=y') Nat.zero_lt_one rfl;simpa using this
end
