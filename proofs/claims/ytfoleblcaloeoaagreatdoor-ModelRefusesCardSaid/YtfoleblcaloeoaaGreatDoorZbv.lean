/- Texts merged for the claim. -/
import Derived.Test.YtfoleblcaloeoaaGreatDoorZbr
import Derived.Test.YtfoleblcaloeoaaGreatDoorZbu
set_option maxHeartbeats 40000000
set_option maxRecDepth 20000
namespace Go.Proofs.YtfoleblcaloeoaaGreatDoor
open Go Go.RowKit
def WN (w:World) (m:Nat) (M:Mo) (O:Nat→Prop) (N:Nat):Prop :=
 ∃sp vo ve L E gb gm gs,WIn w m M sp vo ve L E gb gm gs∧(∀k,FW' M m vo ve L gb gm k→O k)∧(∀k,O k→k < w.heap.size)∧L.length≤N∧E.length≤N
theorem WN.cp {O G:Nat→Prop} {w w':World} {m:Nat} {M:Mo} {N:Nat} (h:WN w m M O N) (hc:CP G w w') (hg:∀k,O k→¬ G k):WN w' m M O N:=by
 obtain ⟨sp,vo,ve,L,E,gb,gm,gs,h1,h2,h3,h4⟩:=h
 exact ⟨sp,vo,ve,L,E,gb,gm,gs,h1.cp hc (fun k hk=>hg k (h2 k hk)),h2,fun k hk=>Nat.lt_of_lt_of_le (h3 k hk) hc.size,h4⟩
theorem WN.stay {O:Nat→Prop} {w w':World} {m:Nat} {M:Mo} {N:Nat} (h:WN w m M O N) (hc:Chg [] w w'):WN w' m M O N:=h.cp (CP.of0 (F:=fun _=>False) hc) (fun _ _ h=>h)
theorem WN.lt {O:Nat→Prop} {w:World} {m:Nat} {M:Mo} {N:Nat} (h:WN w m M O N):∀k,O k→k < w.heap.size:=by
 obtain ⟨sp,vo,ve,L,E,gb,gm,gs,h1,h2,h3,h4⟩:=h
 exact h3
theorem WN.mono {O:Nat→Prop} {w:World} {m:Nat} {M:Mo} {N N':Nat} (h:WN w m M O N) (hN:N≤N'):WN w m M O N':=by
 obtain ⟨sp,vo,ve,L,E,gb,gm,gs,h1,h2,h3,h4,h5⟩:=h
 exact ⟨sp,vo,ve,L,E,gb,gm,gs,h1,h2,h3,by omega,by omega⟩
theorem WIn.take {w w':World} {m b:Nat} {M':Mo} {sp':Nat→Option Nat} {vo' ve':Value} {L':List Ob} {E':List Nat} {gb' gm':Nat→Nat} {gs':Nat→Sq} {cs:Array Value} (h0:Blk w m 79 cs) (h:WIn w b M' sp' vo' ve' L' E' gb' gm' gs') (hw:WB w' m M'.c sp' vo' ve') (hc:Chg [m] w w'):WIn w' m M' sp' vo' ve' L' E' gb' gm' gs':=by
 refine ⟨hw,h.ob.chg hc (fun k hk=>?_) (fun o ho k hk=>?_),h.ev.chg hc (fun k hk=>?_),h.sp,h.rng,fun n p hp=>?_,h.ib⟩
 ·simp;exact fun e=>SE.not_blk h.ob.sl h0 (by decide) (e ▸ hk)
 ·simp;exact fun e=>SE.not_blk (h.ob.bt o ho).1 h0 (by decide) (e ▸ hk)
 ·simp;exact fun e=>SE.not_blk h.ev.sl h0 (by decide) (e ▸ hk)
 ·obtain ⟨c1,c2,c3⟩:=h.pr n p hp
  exact ⟨Blk.chg c1 hc (by simp;exact Blk.ne_ c1 h0 (by decide)),c2.chg hc (by simp;exact fun e=>Blk.ne_map h0 c2 e.symm),c3⟩
theorem OIn.push {w w' w2:World} {vo vo2 u:Value} {L:List Ob} {ob:Int→Option (List Nat)} (h:OIn w vo L ob) {hd:Nat} {B:List Nat} (hn:ob (hd:Int) = none) (kN:hd < 18446744073709551616) (hB:∀y∈B,y < 256)
  (hc:Chg [] w w') (hu:SB w' u B) (hgu:∀k∈own u,w.heap.size≤k) (jA:Chg (own vo) w' w2) (hs:SE obl 2 92 w2 vo2 (L ++ [⟨hd,B,u⟩])):OIn w2 vo2 (L ++ [⟨hd,B,u⟩]) (upd ob (hd:Int) (some B)):=by
 have nov:∀(o:Value) (l:List Nat),SB w' o l→∀k∈own o,k∉own vo:=fun o l lW k hk kL=>by
  obtain ⟨c1,h1⟩:=Sl.blk lW hk
  obtain ⟨c2,h2⟩:=Sl.blk (SE.stay h.sl hc) kL
  exact Blk.ne_ h1 h2 (by decide) rfl
 have jZ:=h.none_iff hn
 refine ⟨hs,fun o ho=>?_,?_,?_,fun z=>?_⟩
 ·rcases List.mem_append.1 ho with ho | ho
  ·obtain ⟨b1,b2⟩:=h.bt o ho
   exact ⟨SE.chg (SE.stay b1 hc) jA (nov _ _ (SE.stay b1 hc)),b2⟩
  ·obtain rfl:=aa ho
   exact ⟨SE.chg hu jA (nov _ _ hu),hB,kN⟩
 ·rw [List.pairwise_append]
  refine ⟨h.nd,List.pairwise_singleton _ _,fun a ha o ho=>?_⟩
  obtain rfl:=aa ho
  exact jZ a ha
 ·rw [List.pairwise_append]
  refine ⟨h.ap,List.pairwise_singleton _ _,fun a ha o ho k hk kL=>?_⟩
  obtain rfl:=aa ho
  have h1:=SE.own_lt (h.bt a ha).1 k hk
  have h2:=hgu k kL
  omega
 ·unfold upd
  rw [List.find?_append]
  by_cases e:z = (hd:Int)
  ·rw [if_pos e,vf (fun o ho e2=>jZ o ho (by omega)),List.find?_cons_of_pos]
   ·rfl
   ·simp [e]
  ·rw [if_neg e,h.lk]
   have e3:¬ ((hd:Int) = z):=fun x=>e x.symm
   rw [List.find?_cons_of_neg,List.find?_nil,Option.or_none]
   simpa using e3
theorem EIn.push {w w2:World} {ve ve2:Value} {E:List Nat} {ev:Int→Bool} (h:EIn w ve E ev) {hd:Nat} (kN:hd < 18446744073709551616) (hs:SW w2 ve2 (E ++ [hd])):EIn w2 ve2 (E ++ [hd]) (upd ev (hd:Int) true):=by
 refine ⟨hs,fun e he=>?_,fun z=>?_⟩
 ·rcases List.mem_append.1 he with he | he
  ·exact h.e64 e he
  ·obtain rfl:=aa he;exact kN
 ·unfold upd
  rw [List.any_append]
  by_cases e:z = (hd:Int)
  ·rw [if_pos e];simp [e]
  ·rw [if_neg e,h.lk]
   have e3:¬ ((hd:Int) = z):=fun x=>e x.symm
   simp [e3]
theorem iF {r:Rs}:da r ⟨0,18446744073709551615 - r.v,[]⟩ = true→r.v < 18446744073709551616→False:=by
 intro h kN
 rw [gw] at h
 have:=congrArg Rs.v h
 simp only at this
 omega
theorem ans17 {M:Mo} {x:Cl} (hk:x.k = 17) (v:Nat):((bj M x 0).1.e = 0→bj M x 0 = (⟨0,0,[]⟩,none)∧bj M x v = (⟨0,min v (M.c 0).toNat,[]⟩,none))∧((bj M x 0).1.e≠0→bj M x v = bj M x 0):=by
 unfold bj
 rw [if_neg (show ¬ x.k = 1 by omega),if_neg (show ¬ x.k = 10 by omega),if_neg (show ¬ (x.k = 11∨x.k = 12∨x.k = 13) by omega),if_neg (show ¬ (x.k = 19∨x.k = 20∨x.k = 21) by omega),if_neg (show ¬ x.k = 1 by omega),if_neg (show ¬ x.k = 10 by omega),if_neg (show ¬ (x.k = 11∨x.k = 12∨x.k = 13) by omega),if_neg (show ¬ (x.k = 19∨x.k = 20∨x.k = 21) by omega)]
 cases M.pr x.p with
 | none=>exact ⟨fun h=>absurd (show (7:Int) = 0 from h) (by decide),fun _=>rfl⟩
 | some p =>
  have e:∀v,cd M x v p = if Ar.mdE p.rl x.g (max x.c 1)≠0 then (aq 7,none) else (⟨0,min v (M.c 0).toNat,[]⟩,none):=fun v=>by
   unfold cd
   rw [if_neg (by omega),if_neg (by omega),if_neg (by omega),if_neg (by omega),if_neg (by omega)]
   split
   ·rfl
   ·first | rfl | rw [if_pos hk]
  simp only [e]
  split
  ·exact ⟨fun h=>absurd (show (7:Int) = 0 from h) (by decide),fun _=>rfl⟩
  ·exact ⟨fun _=>⟨by rw [Nat.zero_min],rfl⟩,fun h=>absurd rfl h⟩
theorem XB.set_v {w:World} {b:Nat} {x:Rs} {u:Value} (h:XB w b x u) (z:Nat):XB (w.setCell ⟨b,1,none⟩ (.int .u64 z)) b ⟨x.e,z,x.l⟩ u:=Blk.set_ h 1 (.int .u64 z)
theorem SW_one (w:World) (z:Nat):RE wcl 1 (w.alloc (.cells #[.int .u64 z] 37)) (.slice (some ⟨w.heap.size,0,none⟩) 1 1) [z]:=vw w 37 1 1 [.int .u64 z] rfl
section
variable {w w1:World} {b:Nat} {M:Mo} {sp:Nat→Option Nat} {vo ve:Value} {L:List Ob} {E:List Nat} {gb gm:Nat→Nat} {gs:Nat→Sq}
theorem SE.not_se {α β:Type} {enc:α→List Value} {enc':β→List Value} {size size':Nat} {e e':TypeId} {w:World} {v v':Value} {l:List α} {l':List β} (h:SE enc size e w v l) (h':SE enc' size' e' w v' l') (jO:e≠e'):∀k∈own v,k∉own v':=fun k hk kL=>by
 obtain ⟨c1,h1⟩:=Sl.blk h hk
 obtain ⟨c2,h2⟩:=Sl.blk h' kL
 exact Blk.ne_ h1 h2 jO rfl
theorem WIn.pushE (h:WIn w b M sp vo ve L E gb gm gs) {hd:Nat} (kN:hd < 18446744073709551616) (hc:Chg (own ve) w w1) {ve2:Value} (hs:SW w1 ve2 (E ++ [hd])):WIn (w1.setCell ⟨b,104,none⟩ ve2) b { M with ev:=upd M.ev (hd:Int) true } sp vo ve2 L (E ++ [hd]) gb gm gs:=by
 have kF:WB w1 b M.c sp vo ve:=Blk.chg h.blk hc (fun hk=>SE.not_blk h.ev.sl h.blk (by decide) hk)
 have jA:Chg [b] w1 (w1.setCell ⟨b,104,none⟩ ve2):=(Chg.refl [b] w1).setCell (p:=⟨b,104,none⟩) (.inl (by simp)) _
 have oH:SW (w1.setCell ⟨b,104,none⟩ ve2) ve2 (E ++ [hd]):=SE.chg hs jA (fun k hk=>by simp;exact fun e=>SE.not_blk hs kF (by decide) (e ▸ hk))
 have BQ:=h.ob.chg hc (fun k hk kL=>SE.not_se h.ob.sl h.ev.sl (by decide) k hk kL) (fun o ho k hk kL=>SE.not_se (h.ob.bt o ho).1 h.ev.sl (by decide) k hk kL)
 refine ⟨WB.set_ve kF ve2,BQ.chg jA (fun k hk=>by simp;exact fun e=>SE.not_blk BQ.sl kF (by decide) (e ▸ hk)) (fun o ho k hk=>by simp;exact fun e=>SE.not_blk (BQ.bt o ho).1 kF (by decide) (e ▸ hk)),h.ev.push kN oH,h.sp,h.rng,fun n p hp=>?_,h.ib⟩
 obtain ⟨c1,c2,c3⟩:=h.pr n p hp
 have d1:=Blk.chg c1 hc (fun hk=>SE.not_blk h.ev.sl c1 (by decide) hk)
 have d2:=c2.chg hc (fun hk=>SE.not_map h.ev.sl c2 hk)
 exact ⟨Blk.chg d1 jA (by simp;exact fun e=>Blk.ne_ kF d1 (by decide) e.symm),d2.chg jA (by simp;exact fun e=>Blk.ne_map kF d2 e.symm),c3⟩
theorem WIn.pushO {w2:World} (h:WIn w b M sp vo ve L E gb gm gs) {hd:Nat} {B:List Nat} (hn:M.ob (hd:Int) = none) (kN:hd < 18446744073709551616) (hB:∀y∈B,y < 256) (hc:Chg [] w w1) {u vo2:Value} (hu:SB w1 u B) (hgu:∀k∈own u,w.heap.size≤k) (jH:Chg (own vo) w1 w2) (hs:SE obl 2 92 w2 vo2 (L ++ [⟨hd,B,u⟩])) :
  WIn (w2.setCell ⟨b,103,none⟩ vo2) b { M with ob:=upd M.ob (hd:Int) (some B) } sp vo2 ve (L ++ [⟨hd,B,u⟩]) E gb gm gs:=by
 have h1:=h.stay hc
 have kF:WB w2 b M.c sp vo ve:=Blk.chg h1.blk jH (fun hk=>SE.not_blk h1.ob.sl h1.blk (by decide) hk)
 have jA:Chg [b] w2 (w2.setCell ⟨b,103,none⟩ vo2):=(Chg.refl [b] w2).setCell (p:=⟨b,103,none⟩) (.inl (by simp)) _
 have BS:=h.ob.push hn kN hB hc hu hgu jH hs
 have Gb:=h1.ev.chg jH (fun k hk kL=>SE.not_se h1.ev.sl h1.ob.sl (by decide) k hk kL)
 refine ⟨WB.set_vo kF vo2,BS.chg jA (fun k hk=>by simp;exact fun e=>SE.not_blk BS.sl kF (by decide) (e ▸ hk)) (fun o ho k hk=>by simp;exact fun e=>SE.not_blk (BS.bt o ho).1 kF (by decide) (e ▸ hk)),Gb.chg jA (fun k hk=>by simp;exact fun e=>SE.not_blk Gb.sl kF (by decide) (e ▸ hk)),h.sp,h.rng,fun n p hp=>?_,h.ib⟩
 obtain ⟨c1,c2,c3⟩:=h1.pr n p hp
 have d1:=Blk.chg c1 jH (fun hk=>SE.not_blk h1.ob.sl c1 (by decide) hk)
 have d2:=c2.chg jH (fun hk=>SE.not_map h1.ob.sl c2 hk)
 exact ⟨Blk.chg d1 jA (by simp;exact fun e=>Blk.ne_ kF d1 (by decide) e.symm),d2.chg jA (by simp;exact fun e=>Blk.ne_map kF d2 e.symm),c3⟩
end
theorem iQ {w:World} {m:Nat} {M:Mo} {O:Nat→Prop} {N:Nat} (h:WN w m M O N) (hN:N≤400000) (nS:MoOk M) (Am:EvOk M) {x:Cl} {v:Value} {r:Rs} {u:Value} (hx:x.Ok) (hv:RB w v x.l) (hr:r.Ok) (hu:RB w u r.l) :
  Calls Tryz.prog 12 #[.pointer (some ⟨m,0,none⟩),.agg (clc x v),.agg (rsc r u)] w fun e w'=>e = .returned (.bool (fv M x r))∧CP O w w'∧∃O',WN w' m (ic M x r) O' (N+1)∧∀k,O' k→O k∨w.heap.size≤k:=by
 have oC:x.l≠[]→∀k∈own v,k < w.heap.size:=fun hl=>RB.own_lt hv hl
 obtain ⟨A0,c0,rfl⟩:=RE.form hv
 obtain ⟨A1,c1,rfl⟩:=RE.form hu
 have HM:=ah h
 obtain ⟨sp,vo,ve,L,E,gb,gm,gs,hI,hO,hl,hLN,hEN⟩:=h
 obtain ⟨W2,jB⟩:∃W2,W2 = (w.alloc (.cells (clc x (.slice A0 x.l.length c0)) 47)).alloc (.cells (rsc r (.slice A1 r.l.length c1)) 40):=⟨_,rfl⟩
 have jA:Chg [] w W2:=by rw [jB];exact ((Chg.refl [] w).alloc _).alloc _
 have kQ:KB W2 w.heap.size x (.slice A0 x.l.length c0):=by rw [jB];exact (Blk.new w _ _).alloc _
 have qQ:XB W2 (w.heap.size+1) r (.slice A1 r.l.length c1):=by
  have:=Blk.new (w.alloc (.cells (clc x (.slice A0 x.l.length c0)) 47)) 40 (rsc r (.slice A1 r.l.length c1))
  rw [af] at this
  rw [jB]
  exact this
 obtain ⟨b4,e4⟩:∃b,b = w.heap.size:=⟨_,rfl⟩
 obtain ⟨b5,e5⟩:∃b,b = w.heap.size+1:=⟨_,rfl⟩
 rw [← e5] at qQ
 rw [← e4] at kQ
 have HE:=ah (And.intro e4 e5)
 have HI:=ah (fun W (h:Chg [] W2 W)=>hI.stay (jA.stay h))
 have jW:=ah (fun W (h:Chg [] W2 W)=>KB.stay kQ h)
 have mX:=ah (fun W (h:Chg [] W2 W)=>XB.stay qQ h)
 have jU:=ah jA
 have jP:=ah jB
 have HV:=ah (fun W (h:Chg [] W2 W)=>RE.stay hv (jA.stay h))
 have HU:=ah (fun W (h:Chg [] W2 W)=>RE.stay hu (jA.stay h))
 have HX:=ah hx
 have vF:=ah hr
 have BB:=ah oC
 have rJ:=ah nS
 have HEV:=ah Am
 have Ag:=ah (And.intro hO hl)
 have oX:=ah (show L.length≤N∧E.length≤N∧N≤400000 from ⟨hLN,hEN,hN⟩)
 have EVE:=ah (fun e=>br_e e)
 have lU:=ah (show ∀W,Chg [] W2 W→CP O w W∧∃O',WN W m M O' (N+1)∧∀k,O' k→O k∨w.heap.size≤k from fun W hW=>⟨CP.of0 (jA.stay hW),O,(HM.out.stay (jA.stay hW)).mono (Nat.le_succ N),fun k hk=>.inl hk⟩)
 clear hI hO hl hv hu hx hr kQ qQ jA jB e4 e5 oC nS Am hLN hEN hN
 obtain ⟨SB,CU⟩:∃b,b = fv M x r:=⟨_,rfl⟩
 obtain ⟨SM,CV⟩:∃N,N = ic M x r:=⟨_,rfl⟩
 rw [← CU,← CV]
 have qP:=ah CU
 have sG:=ah CV
 clear CU CV
 have sQ:=fun W (h:Chg [] W2 W)=>ur (w:=W) M.c HX.out (HV.out W h)
 rw [← dG M.c HX.out] at sQ
 have uD:=ah sQ
 clear sQ
 go_enter Tryz.func12,Tryz.ntmps12
 go_upto_region 1 with (first|refine ax rfl _ rfl rfl ?_;try simp only [af]|refine em rfl _ rfl rfl ?_;try simp only [af];try rw [← jP.out])
 rw [← HE.out.2,← HE.out.1]
 cases hw:ci M.c x with
 | true =>
  have e1:SB = da r (aq 2):=by rw [qP.out];unfold fv;rw [if_pos hw]
  have e2:SM = M:=by rw [sG.out];unfold ic;rw [if_pos (.inl hw)]
  subst e1 e2
  rw [hw] at uD
  clear hw
  refine rgt [0,0,0,5,5,3] [none,none,none,none,none,none] (fun W=>Chg [] W2 W) ?_
  have hS:Chg [] W2 W2.drew:=(Chg.refl [] W2).drew
  have lm:=Blk.lt (HI.out _ hS).blk
  generalize W2.drew = W0 at hS lm ⊢
  go_upto_region 2 with (first|refine al 26 _ rfl rfl (fun w' J=>WB.load26 (HI.out w' J).blk) hS ?_|refine al 47 _ rfl rfl (fun w' J=>KB.load (jW.out w' J)) hS ?_|refine ao fun K I=>?_;go_simp;refine (uD.out W0 hS).mono ?_;rintro e W3 ⟨rfl,jD⟩;refine I _ _ ?_;clear I K;have jE:=ah (hS.stay jD);clear jD hS lm|refine av fun K I=>?_|refine ai fun K I=>?_;go_simp;refine I _ _ ?_;clear I K|refine ao fun K I=>?_;go_simp|refine aj ?_)
  obtain ⟨c0',-,-,-,-,-,s6,-,-,-,-,-,l4,-⟩:=KB.cells (jW.out W3 jE.out)
  obtain ⟨p0,p1,-,l5,-⟩:=XB.cells (mX.out W3 jE.out)
  clear c0' s6 l4 p0 p1 l5
  go_wp2_with (first|refine dc (b:=b5) rfl _ rfl rfl (mX.out W3 jE.out) ?_|refine bx rfl _ rfl (EVE.out 2) ?_ ?_;(focus (simp [Act.eval];done)))
  refine (jp (y:=aq 2) (HU.out W3 jE.out) (RE.nil ucl 1 _ none 0) vF.out.l (fun _ h=>by cases h)).mono ?_
  rintro e W6 ⟨rfl,iZ⟩
  have kR:=ah (jE.out.stay iZ)
  clear iZ
  go_wp2_with fail
  go_ret
  exact ⟨rfl,lU.out _ kR.out⟩
 | false =>
  have mL:=ah hw
  rw [hw] at uD
  clear hw
  refine rgt [0,0,0,5,5,3] [none,none,none,none,none,none] (fun W=>Chg [] W2 W) ?_
  have hS:Chg [] W2 W2.drew:=(Chg.refl [] W2).drew
  have lm:=Blk.lt (HI.out _ hS).blk
  generalize W2.drew = W0 at hS lm ⊢
  go_upto_region 3 with (first|refine al 26 _ rfl rfl (fun w' J=>WB.load26 (HI.out w' J).blk) hS ?_|refine al 47 _ rfl rfl (fun w' J=>KB.load (jW.out w' J)) hS ?_|refine ao fun K I=>?_;go_simp;refine (uD.out W0 hS).mono ?_;rintro e W3 ⟨rfl,jD⟩;refine I _ _ ?_;clear I K;have jE:=ah (hS.stay jD);clear jD hS lm|refine av fun K I=>?_|refine ai fun K I=>?_;go_simp;refine I _ _ ?_;clear I K|refine ao fun K I=>?_;go_simp|refine aj ?_)
  obtain ⟨c0',-,-,-,-,-,s6,-,-,-,-,-,l4,-⟩:=KB.cells (jW.out W3 jE.out)
  obtain ⟨p0,p1,-,l5,-⟩:=XB.cells (mX.out W3 jE.out)
  go_wp2_with fail
  refine (iR x.k r.e W3).mono ?_
  rintro e W3' ⟨rfl,rfl⟩
  cases tP:eh x.k r.e with
  | true =>
   have e1:SB = da r (aq r.e):=by rw [qP.out];unfold fv;rw [if_neg (by rw [mL.out];decide),if_pos tP]
   have e2:SM = M:=by rw [sG.out];unfold ic;rw [if_pos (.inr (.inl tP))]
   subst e1 e2
   clear tP c0' s6 l4 p1
   go_wp2_with (first|refine dc (b:=b5) rfl _ rfl rfl (mX.out W3 jE.out) ?_|refine bx rfl _ rfl (EVE.out r.e) ?_ ?_;(focus (simp [Act.eval,Act.put];done)))
   refine (jp (y:=aq r.e) (HU.out W3 jE.out) (RE.nil ucl 1 _ none 0) vF.out.l (fun _ h=>by cases h)).mono ?_
   rintro e W6 ⟨rfl,iZ⟩
   have kR:=ah (jE.out.stay iZ)
   clear iZ
   go_wp2_with fail
   go_ret
   exact ⟨rfl,lU.out _ kR.out⟩
  | false =>
   have ebN:=show SB = da r (bj M x r.v).1 by rw [qP.out];unfold fv;rw [if_neg (by rw [mL.out];decide),if_neg (by rw [tP];decide)]
   have emN:=show SM = if da r (bj M x r.v).1 = true∧r.e = 0 then ((bj M x r.v).2).getD M else M by
    rw [sG.out];unfold ic
    by_cases h1:da r (bj M x r.v).1 = true
    ·by_cases h2:r.e = 0
     ·rw [if_neg,if_pos ⟨h1,h2⟩]
      rintro (h | h | h | h)
      ·rw [mL.out] at h;cases h
      ·rw [tP] at h;cases h
      ·rw [h1] at h;cases h
      ·exact h h2
     ·rw [if_pos (.inr (.inr (.inr h2))),if_neg (fun h=>h2 h.2)]
    ·rw [if_pos (.inr (.inr (.inl (by simpa using h1)))),if_neg (fun h=>h1 h.1)]
   have vZ:=ah (And.intro ebN emN)
   clear tP ebN emN
   go_wp2_with fail
   refine (rk (HI.out W3 jE.out) rJ.out (by have:=oX.out;omega) (by have:=oX.out;omega)).mono ?_
   rintro e W4 ⟨⟨b7,sp7,vo7,ve7,L7,g7,m7,rfl,hI7,hl7,hF7⟩,jT⟩
   have xL:=ah jT
   have jR:=ah (jE.out.stay jT)
   have HI7:=ah hI7
   have Fb:=ah hF7
   have HL7:=ah hl7
   have Ch:=ah (show b4 < W3.heap.size∧b5 < W3.heap.size from ⟨l4,l5⟩)
   have HM3:=ah (show m < W3.heap.size from Blk.lt (HI.out W3 jE.out).blk)
   clear jT hI7 hF7 hl7 c0' s6 l4 p0 p1 l5
   go_wp2_with (first|refine ck (b:=b4) (x:=x) (v:=.slice A0 x.l.length c0) rfl _ rfl rfl (jW.out W4 jR.out) ?_)
   refine (aA HI7.out (fun k hk=>(Fb.out k hk).2) HX.out rJ.out (by have h1:=oX.out;have h2:=HL7.out;omega) mL.out (.slice A0 x.l.length c0) rfl (HV.out W4 jR.out) (fun jO k hk hf=>by have h1:=BB.out jO k hk;have h2:=(Fb.out k hf).1;have h3:=(jU.out.stay jE.out).size;omega)).mono ?_
   rintro e W5 ⟨A5,k5,c5,rfl,pO,oS,kO,sp8,vo8,L8,gb8,gm8,gs8,hI8,rM,hF8⟩
   have De:Chg [] W3 W5:=by
    obtain ⟨G,CN,CO⟩:=kO
    refine xL.out.trans CN (fun y hy=>.inr ?_)
    rcases CO y hy with h | h
    ·exact (Fb.out y h).1
    ·exact ag xL.out.size h
   obtain ⟨RR,kB⟩:∃R,R = doA M x:=⟨_,rfl⟩
   rw [← kB] at pO hI8 hF8
   rw [← kB]
   obtain ⟨N8,hN8⟩:∃N8,N8 = if RR.1.e = 0 then RR.2.getD M else M:=⟨_,rfl⟩
   rw [← hN8] at hI8 hF8
   have jC:=ah kB
   have BA:=ah hN8
   have AO:=ah pO
   have HI8:=ah hI8
   have HL8:=ah (show L8.length≤N from by have h1:=oX.out;have h2:=HL7.out;omega)
   have Bx:=ah (show ∀k,FW' N8 b7 vo8 ve7 L8 gb8 gm8 k→W3.heap.size≤k∧k < W5.heap.size from fun k hk=>by
    rcases hF8 k hk with ⟨h1,h2⟩ | ⟨h1,h2⟩
    ·exact ⟨(Fb.out k h1).1,h2⟩
    ·exact ⟨ag xL.out.size h1,h2⟩)
   have jM:=ah De
   have jL:=ah (jE.out.stay De)
   have HGO:=ah (show ∀i∈own (.slice A5 k5 c5),W3.heap.size≤i from fun i hi=>ag xL.out.size (oS i hi))
   have HYB:=ah (show ∀b∈RR.1.l,b < 256 from by
    rw [kB];unfold doA
    split
    ·intro b hb;cases hb
    ·exact rJ.out.ans_l x 0)
   clear pO oS kO hI8 rM hF8 De kB hN8 HI7 Fb HL7
   go_upto_region 7 with (first|refine bn rfl rfl ?_;try go_simp|refine au (b:=W5.heap.size) (y:=RR.1) (u:=.slice A5 k5 c5) rfl _ _ rfl rfl rfl rfl (Blk.new W5 _ _) ?_;intro W6 h6 iZ;have H6:=ah h6;have oK:=ah (vi iZ);clear h6 iZ)
   obtain ⟨b8,wH⟩:∃y,y = W5.heap.size:=⟨_,rfl⟩
   rw [← wH] at H6 ⊢
   have vY:=ah wH
   clear wH
   have kR:=ah (jL.out.stay oK.out)
   obtain ⟨q0,q1,-,ql,qf⟩:=XB.cells H6.out
   obtain ⟨c0',-,-,-,-,-,s6,-,-,-,-,-,l4,-⟩:=KB.cells (jW.out W6 kR.out)
   obtain ⟨-,p1,-,l5,-⟩:=XB.cells (mX.out W6 kR.out)
   have qf1:=qf 1
   clear qf
   have HI86:=ah (HI8.out.stay oK.out)
   have HF86:=ah (show ∀k,FW' N8 b7 vo8 ve7 L8 gb8 gm8 k→w.heap.size≤k∧k < W6.heap.size from fun k hk=>by have h1:=Bx.out k hk;have h2:=oK.out.size;have h3:=(jU.out.stay jE.out).size;omega)
   by_cases jV:RR.1.e = 0∧(x.k = 10∨x.k = 17)
   case neg =>
    have yF:=ah H6.out
    have Eh:=ah (AO.out.stay oK.out)
    have CK:=HYB
    have kS:bj M x r.v = RR:=by
     rw [jC.out];unfold doA
     by_cases kK:x.k = 10
     ·exfalso
      refine jV ⟨?_,.inl kK⟩
      rw [jC.out];unfold doA;rw [if_pos kK];rfl
     ·rw [if_neg kK]
      by_cases rK:x.k = 17
      ·refine (ans17 rK r.v).2 (fun h0=>jV ⟨?_,.inr rK⟩)
       rw [jC.out];unfold doA;rw [if_neg kK];exact h0
      ·exact ans_v kK rK _
    have nN:=ah (show (da r RR.1 = true→SB = true∧SM = N8)∧(da r RR.1 = false→SB = false∧SM = M) from by
     rw [vZ.out.1,vZ.out.2,kS]
     refine ⟨fun h=>⟨h,?_⟩,fun h=>⟨h,by rw [h];rfl⟩⟩
     have he:r.e = RR.1.e:=congrArg Rs.e ((gw _ _).1 h)
     rw [BA.out,h,he]
     by_cases h0:RR.1.e = 0
     ·rw [if_pos ⟨rfl,h0⟩,if_pos h0]
     ·rw [if_neg (fun h=>h0 h.2),if_neg h0])
    have tW:=HI86
    have Cv:=HF86
    have xQ:=ah (show L8.length≤N+1∧E.length≤N+1 from by have h1:=HL8.out;have h2:=oX.out;omega)
    obtain ⟨YY,En⟩:∃Y,Y = RR.1:=⟨_,rfl⟩
    rw [← En] at yF Eh CK nN H6 q0
    obtain ⟨ze,Cb⟩:∃z:Int,z = YY.e:=⟨_,rfl⟩
    rw [← Cb] at q0
    have HZE:=ah (And.intro En Cb)
    by_cases h0:ze = 0
    ·subst h0
     have hk:x.k≠10∧x.k≠17:=⟨fun h=>jV ⟨by rw [← En];omega,.inl h⟩,fun h=>jV ⟨by rw [← En];omega,.inr h⟩⟩
     have sT:=ah (sg x.k W6)
     rw [show (x.k == 10 || x.k == 17) = false from by simp [hk.1,hk.2]] at sT
     clear jV kS En Cb hk
     go_wp2_with fail
     refine sT.out.mono ?_
     rintro e W6' ⟨rfl,rfl⟩
     go_upto_region 14 with (fail)
     go_wp2_with (first|refine dc (b:=b5) (x:=r) (v:=.slice A1 r.l.length c1) rfl _ rfl rfl (mX.out W6 kR.out) ?_|refine dc (b:=b8) (x:=YY) (v:=.slice A5 k5 c5) rfl _ rfl rfl yF.out ?_)
     refine (jp (HU.out W6 kR.out) Eh.out vF.out.l CK.out).mono ?_
     rintro e Wd ⟨rfl,hcd⟩
     have nX:=ah hcd
     clear hcd
     cases oN:da r YY with
     | false =>
      obtain ⟨rfl,rfl⟩:=nN.out.2 oN
      clear oN
      go_wp2_with fail
      go_ret
      exact ⟨rfl,lU.out _ (kR.out.stay nX.out)⟩
     | true =>
      obtain ⟨rfl,qK⟩:=nN.out.1 oN
      have CF:=ah qK
      clear oN qK
      have pZ:=ah (tW.out.stay nX.out)
      have nY:=ah (And.intro (SO.one tW.out.ob.sl) (SW.one tW.out.ev.sl))
      go_wp2_with (first|refine jy (b:=b7) (c:=N8.c) (sp:=sp8) (vo:=vo8) (ve:=ve7) rfl _ rfl rfl pZ.out.blk ?_|refine jl (b:=m) (c:=N8.c) (sp:=sp8) (vo:=vo8) (ve:=ve7) rfl _ _ rfl rfl rfl nY.out.1 nY.out.2 (HI.out Wd (kR.out.stay nX.out)).blk ?_;intro We he yQ;have AE:=ah he;have rH:=ah yQ;clear he yQ)
      go_ret
      refine ⟨rfl,?_⟩
      rw [CF.out]
      have hI:=WIn.take (HI.out Wd (kR.out.stay nX.out)).blk pZ.out AE.out rH.out
      have Ay:=nX.out.size
      have BZ:=rH.out.size
      have Ca:=(jU.out.stay kR.out).size
      have uH:O m:=Ag.out.1 m (.inl rfl)
      have pL:=Ag.out.2 m uH
      have lF:Chg [m] w We:=((jU.out.stay (kR.out.stay nX.out)).up [m]).and_ rH.out
      have lO:∀k,FW' N8 m vo8 ve7 L8 gb8 gm8 k→(k = m∨w.heap.size≤k)∧k < We.heap.size:=fun k hk=>by
       rcases hk with h | h
       ·exact ⟨.inl h,by omega⟩
       ·have:=Cv.out k (.inr h)
        exact ⟨.inr this.1,by omega⟩
      refine ⟨CP.of lF (fun y hy=>.inl (by obtain rfl:=aa hy;exact uH)),fun k=>FW' N8 m vo8 ve7 L8 gb8 gm8 k,⟨_,_,_,_,_,_,_,_,hI,fun k hk=>hk,fun k hk=>(lO k hk).2,xQ.out.1,xQ.out.2⟩,fun k hk=>?_⟩
      rcases (lO k hk).1 with h | h
      ·exact .inl (h ▸ uH)
      ·exact .inr h
    ·have d0:(ze == 0) = false:=beq_false_of_ne h0
     clear jV kS En Cb h0
     go_upto_region 14 with (fail)
     go_wp2_with (first|refine dc (b:=b5) (x:=r) (v:=.slice A1 r.l.length c1) rfl _ rfl rfl (mX.out W6 kR.out) ?_|refine dc (b:=b8) (x:=YY) (v:=.slice A5 k5 c5) rfl _ rfl rfl yF.out ?_)
     refine (jp (HU.out W6 kR.out) Eh.out vF.out.l CK.out).mono ?_
     rintro e Wd ⟨rfl,hcd⟩
     have nX:=ah hcd
     clear hcd
     cases oN:da r YY with
     | false =>
      obtain ⟨rfl,rfl⟩:=nN.out.2 oN
      clear oN
      go_wp2_with fail
      go_ret
      exact ⟨rfl,lU.out _ (kR.out.stay nX.out)⟩
     | true =>
      obtain ⟨rfl,qK⟩:=nN.out.1 oN
      have CF:=ah qK
      clear oN qK
      have pZ:=ah (tW.out.stay nX.out)
      have nY:=ah (And.intro (SO.one tW.out.ob.sl) (SW.one tW.out.ev.sl))
      go_wp2_with (first|refine jy (b:=b7) (c:=N8.c) (sp:=sp8) (vo:=vo8) (ve:=ve7) rfl _ rfl rfl pZ.out.blk ?_|refine jl (b:=m) (c:=N8.c) (sp:=sp8) (vo:=vo8) (ve:=ve7) rfl _ _ rfl rfl rfl nY.out.1 nY.out.2 (HI.out Wd (kR.out.stay nX.out)).blk ?_;intro We he yQ;have AE:=ah he;have rH:=ah yQ;clear he yQ)
      go_ret
      refine ⟨rfl,?_⟩
      rw [CF.out]
      have hI:=WIn.take (HI.out Wd (kR.out.stay nX.out)).blk pZ.out AE.out rH.out
      have Ay:=nX.out.size
      have BZ:=rH.out.size
      have Ca:=(jU.out.stay kR.out).size
      have uH:O m:=Ag.out.1 m (.inl rfl)
      have pL:=Ag.out.2 m uH
      have lF:Chg [m] w We:=((jU.out.stay (kR.out.stay nX.out)).up [m]).and_ rH.out
      have lO:∀k,FW' N8 m vo8 ve7 L8 gb8 gm8 k→(k = m∨w.heap.size≤k)∧k < We.heap.size:=fun k hk=>by
       rcases hk with h | h
       ·exact ⟨.inl h,by omega⟩
       ·have:=Cv.out k (.inr h)
        exact ⟨.inr this.1,by omega⟩
      refine ⟨CP.of lF (fun y hy=>.inl (by obtain rfl:=aa hy;exact uH)),fun k=>FW' N8 m vo8 ve7 L8 gb8 gm8 k,⟨_,_,_,_,_,_,_,_,hI,fun k hk=>hk,fun k hk=>(lO k hk).2,xQ.out.1,xQ.out.2⟩,fun k hk=>?_⟩
      rcases (lO k hk).1 with h | h
      ·exact .inl (h ▸ uH)
      ·exact .inr h
   obtain ⟨h0,kK | rK⟩:=jV
   ·have hR10:RR = (aq 0,none):=by rw [jC.out];unfold doA;rw [if_pos kK]
    subst hR10
    have sT:=ah (sg 10 W6)
    rw [show ((10:Nat) == 10 || (10:Nat) == 17) = true from rfl] at sT
    have HK:=ah kK
    have kS:bj M x r.v = ja M x.s r.v:=by unfold bj;rw [if_neg (by omega),if_pos kK]
    have mG:=ah kS
    rw [HK.out] at c0'
    obtain ⟨vv,DJ⟩:∃vv:Nat,vv = r.v:=⟨_,rfl⟩
    rw [← DJ] at p1
    have wX:=ah DJ
    clear h0 kK kS DJ
    go_wp2_with fail
    refine sT.out.mono ?_
    rintro e W6' ⟨rfl,rfl⟩
    go_upto_region 9 with (fail)
    have Ax:=XB.set_v H6.out vv
    have kE:Chg [b8] W6 (W6.setCell ⟨b8,1,none⟩ (.int .u64 vv)):=(Chg.refl [b8] W6).setCell (p:=⟨b8,1,none⟩) (.inl (by simp)) _
    clear c0' s6 l4 p1 l5 q0 q1 ql qf1
    generalize W6.setCell ⟨b8,1,none⟩ (.int .u64 vv) = W7 at Ax kE ⊢
    refine rgt [0,1,0,0,0,1,0,0,0,0,1,0,0,0,0,0,1,0,0,0,1,0,0,0,0,1,3,0,0,0] [none,none,none,none,some (47,true),some (47,true),some (47,true),some (47,true),some (47,true),some (47,true),some (47,true),some (47,true),some (47,true),none,none,some (58,false),some (58,false),some (58,false),some (58,false),some (62,true),some (62,true),some (62,true),some (62,true),some (66,false),some (66,false),some (66,false),some (66,false),some (62,true),some (58,false),none] (fun _=>True) ?_
    have zS:=Blk.drew Ax
    have mP:=kE.drew
    generalize W7.drew = W8 at zS mP ⊢
    have nW:=ah (show Chg [] W5 W8 from oK.out.trans mP (fun y hy=>.inr (by obtain rfl:=aa hy;exact Nat.le_of_eq vY.out.symm)))
    have lL:=ah (jL.out.stay nW.out)
    have yF:=ah zS
    have Eh:=ah (AO.out.stay nW.out)
    clear Ax kE zS mP
    obtain ⟨r0,-,-,-,-,-,r6,-,-,-,-,-,l4,-⟩:=KB.cells (jW.out W8 lL.out)
    rw [HK.out] at r0
    obtain ⟨-,p1,-,l5,-⟩:=XB.cells (mX.out W8 lL.out)
    rw [← wX.out] at p1
    have lm:=Blk.lt (HI.out W8 lL.out).blk
    by_cases hbad:vv = 0∨M.ev vv = true
    ·have nN:=ah (show SB = false∧SM = M from by
      have e0:da r (bj M x r.v).1 = false:=by
       rw [mG.out];unfold ja
       rw [if_pos (by rw [← wX.out];exact hbad)]
       cases hs:da r ⟨0,18446744073709551615 - r.v,[]⟩ with
       | false=>rfl
       | true=>exact (iF hs vF.out.v).elim
      rw [vZ.out.1,vZ.out.2,e0]
      exact ⟨rfl,if_neg (fun h=>by cases h.1)⟩)
     by_cases hz:vv = 0
     ·subst hz
      clear hbad
      go_upto_region 10 with (first|refine ay ?_ ?_;(focus (simp [bb,undef];done));go_simp|refine ao fun K I=>?_;go_simp;refine (qh (HI.out W8 lL.out) vv).mono ?_;rintro e W8' ⟨rfl,rfl⟩;refine I _ _ ?_;clear I K|refine av fun K I=>?_|refine ay ?_ ?_;(focus (simp [bb];done));go_simp|refine bh ?_ ?_;(focus (simp [bb];done))|refine ai fun K I=>?_;go_simp;refine I _ _ ?_;clear I K|refine ao fun K I=>?_;go_simp|refine aj ?_)
      obtain ⟨rfl,rfl⟩:=nN.out
      go_wp2_with fail
      go_ret
      exact ⟨rfl,lU.out _ lL.out⟩
     ·have d0:((vv:Int) == 0) = false:=beq_false_of_ne (by omega)
      have Am:M.ev vv = true:=hbad.resolve_left hz
      have HZ:=ah hz
      clear hbad hz
      go_upto_region 10 with (first|refine ay ?_ ?_;(focus (simp [bb,undef];done));go_simp|refine ao fun K I=>?_;go_simp;refine (qh (HI.out W8 lL.out) vv).mono ?_;rintro e W8' ⟨rfl,rfl⟩;refine I _ _ ?_;clear I K|refine av fun K I=>?_|refine ay ?_ ?_;(focus (simp [bb];done));go_simp|refine bh ?_ ?_;(focus (simp [bb];done))|refine ai fun K I=>?_;go_simp;refine I _ _ ?_;clear I K|refine ao fun K I=>?_;go_simp|refine aj ?_)
      obtain ⟨rfl,rfl⟩:=nN.out
      go_wp2_with fail
      go_ret
      exact ⟨rfl,lU.out _ lL.out⟩
    ·have hz:vv≠0:=fun h=>hbad (.inl h)
     have Am:M.ev vv = false:=by cases h:M.ev vv with | false=>rfl | true=>exact absurd (.inr h) hbad
     have d0:((vv:Int) == 0) = false:=beq_false_of_ne (by omega)
     obtain ⟨S0,yL,kT⟩:∃S0:Nat,x.s = S0∧S0≤128:=by have h1:=zc mL.out HK.out;exact ⟨x.s.toNat,by omega,by omega⟩
     obtain ⟨N9,hN9⟩:∃N9,N9 = { M with ob:=upd M.ob (vv:Int) (some (List.replicate S0 0)),ev:=upd M.ev (vv:Int) true }:=⟨_,rfl⟩
     have nN:=ah (show (da r ⟨0,vv,[]⟩ = true→SB = true∧SM = N9)∧(da r ⟨0,vv,[]⟩ = false→SB = false∧SM = M) from by
      have e0:bj M x r.v = (⟨0,vv,[]⟩,some N9):=by
       rw [mG.out];unfold ja
       rw [if_neg (by rw [← wX.out];exact hbad),← wX.out,hN9,yL,Int.toNat_natCast]
      rw [vZ.out.1,vZ.out.2,e0]
      refine ⟨fun h=>⟨h,?_⟩,fun h=>⟨h,by rw [h];rfl⟩⟩
      have he:r.e = 0:=congrArg Rs.e ((gw _ _).1 h)
      rw [if_pos ⟨h,he⟩]
      rfl)
     have HN9:=ah hN9
     have HEV2:=ah Am
     have sH:=ah (And.intro yL kT)
     have xV:=ah (show N8 = M from by rw [BA.out];rfl)
     have HZ:=ah hz
     have EF:∃A c,ve7 = .slice A E.length c:=SE.form HI8.out.ev.sl
     clear hbad hz hN9 yL kT
     go_upto_region 11 with (first|refine ay ?_ ?_;(focus (simp [bb,undef];done));go_simp|refine ao fun K I=>?_;go_simp;refine (qh (HI.out W8 lL.out) vv).mono ?_;rintro e W8' ⟨rfl,rfl⟩;refine I _ _ ?_;clear I K|refine av fun K I=>?_|refine ay ?_ ?_;(focus (simp [bb];done));go_simp|refine bh ?_ ?_;(focus (simp [bb];done))|refine ai fun K I=>?_;go_simp;refine I _ _ ?_;clear I K|refine ao fun K I=>?_;go_simp|refine aj ?_)
     clear d0 Am
     go_upto_region 12 with (fail)
     clear r0 r6 l4 p1 l5 lm
     obtain ⟨Ae,ce,rfl⟩:=EF
     refine dq [0,0,0,0,1,0,1,2,3,0,0,3] ?_
     have hS:Chg [] W8 W8.drew:=(Chg.refl [] W8).drew
     generalize W8.drew = W9 at hS ⊢
     have tW:=ah (HI8.out.stay (nW.out.stay hS))
     have mB:=ah (lL.out.stay hS)
     have AV:=ah (XB.stay yF.out hS)
     have HC89:=ah hS
     have EU:=ah (nW.out.stay hS)
     obtain ⟨-,p1,-,l5,-⟩:=XB.cells (mX.out W9 mB.out)
     rw [← wX.out] at p1
     have q7:=WB.vec tW.out.blk
     have l7:=Blk.lt tW.out.blk
     have HSA:=ah (SW_one W9 vv)
     have rE:Chg [] W9 (W9.alloc (.cells #[.int .u64 vv] 37)):=(Chg.refl [] W9).alloc _
     have DV:=ah (tW.out.stay rE)
     have tN:=ah rE
     have HLE2:=ah (show E.length + [vv].length≤1000000 from by have:=oX.out;simp;omega)
     clear rE hS
     go_upto_region 13 with (first|refine ao fun K I=>?_;refine dE _ _ rfl (.slice Ae E.length ce) (.slice (some ⟨W9.heap.size,0,none⟩) 1 1) rfl rfl DV.out.ev.sl HSA.out HLE2.out ?_;intro A9 n9 c9 Wa hna hsa rE qS;have HSB9:=ah hsa;have rP:=ah rE;have AG:=ah qS;have Br:=Blk.chg DV.out.blk rE (fun hk=>SE.not_blk DV.out.ev.sl DV.out.blk (by decide) hk);have qa:=WB.vec Br;have la:=Blk.lt Br;have fa:=Blk.frozen Br 104;clear hna hsa rE qS Br;refine I _ _ ?_;clear I K|refine av fun K I=>?_|refine ai fun K I=>?_;go_simp;refine I _ _ ?_;clear I K|refine ao fun K I=>?_;go_simp|refine aj ?_)
     have hIb:=DV.out.pushE (hd:=vv) (by rw [wX.out];exact vF.out.v) rP.out HSB9.out
     have xA:Chg [b7] Wa (Wa.setCell ⟨b7,104,none⟩ (.slice A9 n9 c9)):=(Chg.refl [b7] Wa).setCell (p:=⟨b7,104,none⟩) (.inl (by simp)) _
     clear qa la fa p1 q7 l7 l5
     generalize Wa.setCell ⟨b7,104,none⟩ (.slice A9 n9 c9) = Wb at hIb xA ⊢
     have Ab:=ah hIb
     have FH:W3.heap.size≤b7:=(Bx.out b7 (.inl rfl)).1
     have HCBE:=ah (show W9.heap.size≤Wb.heap.size from ag tN.out.size (ag rP.out.size xA.size))
     have Co:=ah (show Chg [] W3 Wb from (((jM.out.stay EU.out).stay tN.out).trans rP.out (fun y hy=>.inr (Bx.out y (.inr (.inr (.inl hy)))).1)).trans xA (fun y hy=>.inr (by obtain rfl:=aa hy;exact FH)))
     have HCb:=ah (jE.out.stay Co.out)
     have HXb:=ah (show XB Wb b8 ⟨0,vv,[]⟩ (.slice A5 k5 c5) from by
      have h1:=XB.stay AV.out tN.out
      have h2:=Blk.chg h1 rP.out (fun hk=>SE.not_blk DV.out.ev.sl h1 (by decide) hk)
      exact Blk.chg h2 xA (by simp;exact fun e=>Blk.ne_ tW.out.blk AV.out (by decide) e.symm))
     have AE:=ah (show ∀i∈own (.slice A9 n9 c9),W3.heap.size≤i from fun i hi=>by
      rcases AG.out i hi with h1 | h1
      ·exact (Bx.out i (.inr (.inr (.inl h1)))).1
      ·exact ag ((jM.out.stay EU.out).stay tN.out).size h1)
     obtain ⟨Ao,co,sP⟩:=SE.form Ab.out.ob.sl
     have sI:=ah sP
     clear hIb xA FH sP
     refine rgt [0,0,0,0,5,0,5,0,5,6,0,6,3,0,0,3] [none,none,none,none,none,none,none,none,none,none,none,none,none,none,none,none] (fun W=>Chg [] Wb W) ?_
     have hS:Chg [] Wb Wb.drew:=(Chg.refl [] Wb).drew
     generalize Wb.drew = Wc at hS ⊢
     have AH:=ah (fun W (h:Chg [] Wb W)=>(fz Tryz.underlying77 (by rw [← sI.out];exact WB.voc (Ab.out.stay h).blk):(loadVar 77 ⟨b7,103,none⟩).run Tryz.prog W = .ok (.slice Ao L8.length co) W))
     have vC:=ah (fun W (h:Chg [] Wb W)=>(cr Tryz.underlying37 (by rw [wX.out];exact (XB.cells (mX.out W (HCb.out.stay h))).2.1):(loadVar 37 ⟨b5,1,none⟩).run Tryz.prog W = .ok (.int .u64 vv) W))
     have Fg:=ah (fun W (h:Chg [] Wb W)=>(cr Tryz.underlying3 (by rw [← sH.out.1];exact (KB.cells (jW.out W (HCb.out.stay h))).2.2.2.2.2.2.1):(loadVar 3 ⟨b4,6,none⟩).run Tryz.prog W = .ok (.int .i64 S0) W))
     have qI:∀W:World,(Instr.makeSlice 38 (.int .i64 (S0:Int)) (.int .i64 (S0:Int))).run Tryz.prog W = .ok (.slice (some ⟨W.heap.size,0,none⟩) S0 S0) (W.alloc (.cells (madeCells #[.int .u8 0] S0) 5)):=fun W =>
      run_make_row' 38 5 (.int .u8 0) 1 Tryz.underlying38 info5c rfl .i64 .i64 S0 (by have:=sH.out.2;omega) (by have:=sH.out.2;omega) W
     have l7:=Blk.lt (Ab.out.stay hS).blk
     go_wp2_with (first|refine al 77 _ rfl rfl AH.out hS ?_|refine al 37 _ rfl rfl vC.out hS ?_|refine al 3 _ rfl rfl Fg.out hS ?_|refine av fun K I=>?_|refine ai fun K I=>?_;go_simp;refine I _ _ ?_;clear I K|refine ao fun K I=>?_;go_simp|refine aj ?_)
     (refine aw hS fun K I=>?_)
     go_simp
     obtain ⟨Wd,hWd⟩:∃W,W = Wc.alloc (.cells (madeCells #[.int .u8 0] S0) 5):=⟨_,rfl⟩
     have FT:Chg [] Wc Wd:=by rw [hWd];exact (Chg.refl [] _).alloc _
     have hsd:SE ucl 1 5 Wd (.slice (some ⟨Wc.heap.size,0,none⟩) S0 S0) (List.replicate S0 0):=by rw [hWd];exact ub Wc S0 (by have:=sH.out.2;omega)
     try rw [← hWd]
     obtain ⟨bz,Eo⟩:∃y,y = Wc.heap.size:=⟨_,rfl⟩
     rw [← Eo] at hsd ⊢
     have HBZ:=ah (show Wb.heap.size≤bz by have:=hS.size;omega)
     have HSD:=ah hsd
     replace hS:Chg [] Wb Wd:=hS.stay FT
     refine I _ _ hS ?_
     have HBO:=ah (bo_of vv (some ⟨bz,0,none⟩) S0 S0)
     clear I K hWd Eo FT hsd qI l7
     have l7:=Blk.lt (Ab.out.stay hS).blk
     go_wp2_with (first|refine av fun K I=>?_;refine xt _ rfl HBO.out ?_ ?_;(focus (simp [Act.eval];done));refine I _ _ ?_;clear I K|refine av fun K I=>?_|refine ai fun K I=>?_;go_simp;refine I _ _ ?_;clear I K|refine ao fun K I=>?_;go_simp|refine aj ?_)
     (refine aw hS fun K I=>?_)
     go_simp
     obtain ⟨We,hWe⟩:∃W,W = Wd.alloc (.cells #[.int .u64 vv,.slice (some ⟨bz,0,none⟩) S0 S0] 92):=⟨_,rfl⟩
     have Df:Chg [] Wd We:=by rw [hWe];exact (Chg.refl [] _).alloc _
     have Ey:RE obl 2 We (.slice (some ⟨Wd.heap.size,0,none⟩) 1 1) [⟨vv,List.replicate S0 0,.slice (some ⟨bz,0,none⟩) S0 S0⟩]:=by rw [hWe];exact OB_one Wd vv _ _
     try rw [← hWe]
     obtain ⟨by_,BJ⟩:∃y,y = Wd.heap.size:=⟨_,rfl⟩
     rw [← BJ] at Ey ⊢
     have HRE:=ah Ey
     have HSE:=ah (SE.stay HSD.out Df)
     replace hS:Chg [] Wb We:=hS.stay Df
     refine I _ _ hS ?_
     clear I K hWe BJ Df Ey l7
     have rH:=ah hS
     have wD:=ah (show SE obl 2 92 We (.slice Ao L8.length co) L8 from by have:=(Ab.out.stay hS).ob.sl;rw [sI.out] at this;exact this)
     (refine ao fun K I=>?_)
     refine kr _ _ rfl (.slice Ao L8.length co) (.slice (some ⟨by_,0,none⟩) 1 1) rfl rfl wD.out HRE.out (fun o ho=>by obtain rfl:=aa ho;rfl) (by have h1:=HL8.out;have h2:=oX.out;simp;omega) ?_
     intro Af nf cf Wf hnf hsf hcf hgf
     have zR:WB Wf b7 N8.c sp8 vo8 (.slice A9 n9 c9):=Blk.chg (Ab.out.stay hS).blk hcf (fun hk=>SE.not_blk wD.out (Ab.out.stay hS).blk (by decide) hk)
     have qf:=WB.voc zR
     have lf:=Blk.lt zR
     have ff:=Blk.frozen zR 103
     have HWBF:=ah zR
     have HSF:=ah hsf
     have DR:=ah hcf
     have HGF:=ah hgf
     have hXf:XB Wf b8 ⟨0,vv,[]⟩ (.slice A5 k5 c5):=Blk.chg (XB.stay HXb.out hS) hcf (fun hk=>SE.not_blk wD.out (XB.stay HXb.out hS) (by decide) hk)
     have Fx:=ah hXf
     refine I _ _ ?_
     clear I K hnf hsf hcf hgf zR hS hXf
     go_upto_region 14 with (first|refine av fun K I=>?_|refine ai fun K I=>?_;go_simp;refine I _ _ ?_;clear I K|refine ao fun K I=>?_;go_simp|refine aj ?_)
     have hIg:=Ab.out.pushO (hd:=vv) (B:=List.replicate S0 0) (by
      show N8.ob (vv:Int) = none
      rw [xV.out]
      cases xD:M.ob (vv:Int) with
      | none=>rfl
      | some B=>have h1:=HEV.out _ _ xD;rw [HEV2.out] at h1;cases h1) (by rw [wX.out];exact vF.out.v) (fun y hy=>by rw [List.mem_replicate] at hy;omega) rH.out HSE.out (fun i hi=>by rw [gh] at hi;obtain rfl:=aa hi;exact HBZ.out) (by rw [sI.out];exact DR.out) HSF.out
     have Dg:Chg [b7] Wf (Wf.setCell ⟨b7,103,none⟩ (.slice Af nf cf)):=(Chg.refl [b7] Wf).setCell (p:=⟨b7,103,none⟩) (.inl (by simp)) _
     clear qf lf ff
     generalize Wf.setCell ⟨b7,103,none⟩ (.slice Af nf cf) = Wg at hIg Dg ⊢
     have hMN:({ ({ N8 with ev:=upd N8.ev (vv:Int) true }:Mo) with ob:=upd N8.ob (vv:Int) (some (List.replicate S0 0)) }:Mo) = N9:=by rw [HN9.out,xV.out]
     have CQ:WIn Wg b7 N9 sp8 (.slice Af nf cf) (.slice A9 n9 c9) (L8 ++ [⟨vv,List.replicate S0 0,.slice (some ⟨bz,0,none⟩) S0 S0⟩]) (E ++ [vv]) gb8 gm8 gs8:=by rw [← hMN];exact hIg
     have HI9':=ah CQ
     have HC3g:=ah (show Chg [] W3 Wg from ((Co.out.stay rH.out).trans DR.out (fun y hy=>.inr (Bx.out y (.inr (.inl (by rw [sI.out];exact hy)))).1)).trans Dg (fun y hy=>.inr (by obtain rfl:=aa hy;exact (Bx.out _ (.inl rfl)).1)))
     have Ct:=ah (jE.out.stay HC3g.out)
     have HX8':=ah (show XB Wg b8 ⟨0,vv,[]⟩ (.slice A5 k5 c5) from Blk.chg Fx.out Dg (by simp;exact fun e=>Blk.ne_ HWBF.out Fx.out (by decide) e.symm))
     have HRY':=ah (show RB Wg (.slice A5 k5 c5) (⟨0,vv,[]⟩:Rs).l from by
      obtain ⟨h1,A',c',e',Ak,oG⟩:=AO.out
      exact ⟨h1,A',c',e',Ak,fun h=>absurd h (by simp)⟩)
     have CK:=ah (show ∀b∈(⟨0,vv,[]⟩:Rs).l,b < 256 from fun b hb=>by cases hb)
     have Cv:=ah (show ∀k,FW' N9 b7 (.slice Af nf cf) (.slice A9 n9 c9) (L8 ++ [⟨vv,List.replicate S0 0,.slice (some ⟨bz,0,none⟩) S0 S0⟩]) gb8 gm8 k→w.heap.size≤k∧k < Wg.heap.size from fun k hk=>by
      have h03:=(jU.out.stay jE.out).size
      have h35:W3.heap.size≤Wb.heap.size:=Co.out.size
      have h5g:W5.heap.size≤Wg.heap.size:=ag nW.out.size (ag HC89.out.size (ag HCBE.out (ag rH.out.size (ag DR.out.size Dg.size))))
      have old:∀y,FW' N8 b7 vo8 (.slice Ae E.length ce) L8 gb8 gm8 y→w.heap.size≤y∧y < Wg.heap.size:=fun y hy=>by
       have h1:=Bx.out y hy
       exact ⟨by omega,by omega⟩
      rcases hk with h | h | h | ⟨o,ho,h⟩ | ⟨n,p,hp,h⟩
      ·exact old k (.inl h)
      ·refine ⟨?_,SE.own_lt CQ.ob.sl k h⟩
       rcases HGF.out k h with h1 | h1
       ·exact (old k (.inr (.inl (by rw [sI.out];exact h1)))).1
       ·have:=rH.out.size;omega
      ·refine ⟨?_,SE.own_lt CQ.ev.sl k h⟩
       have:=AE.out k h
       omega
      ·refine ⟨?_,SE.own_lt (CQ.ob.bt o ho).1 k h⟩
       rcases List.mem_append.1 ho with ho | ho
       ·exact (old k (.inr (.inr (.inr (.inl ⟨o,ho,h⟩))))).1
       ·obtain rfl:=aa ho
        rw [gh] at h
        obtain rfl:=aa h
        have:=HBZ.out
        omega
      ·refine old k (.inr (.inr (.inr (.inr ⟨n,p,?_,h⟩))))
       rw [xV.out]
       rw [HN9.out] at hp
       exact hp)
     have xQ:=ah (show (L8 ++ [(⟨vv,List.replicate S0 0,.slice (some ⟨bz,0,none⟩) S0 S0⟩:Ob)]).length≤N+1∧(E ++ [vv]).length≤N+1 from by have h1:=HL8.out;have h2:=oX.out;simp;omega)
     obtain ⟨vo9,DI⟩:∃y,y = Value.slice Af nf cf:=⟨_,rfl⟩
     obtain ⟨ve9,DH⟩:∃y,y = Value.slice A9 n9 c9:=⟨_,rfl⟩
     obtain ⟨L9,nQ⟩:∃y,y = L8 ++ [(⟨vv,List.replicate S0 0,.slice (some ⟨bz,0,none⟩) S0 S0⟩:Ob)]:=⟨_,rfl⟩
     obtain ⟨E9,hE9⟩:∃y,y = E ++ [vv]:=⟨_,rfl⟩
     rw [← DI,← DH,← nQ] at Cv
     rw [← nQ,← hE9] at xQ
     rw [← DI,← DH,← nQ,← hE9] at CQ
     have Cx:=ah CQ
     clear hIg Dg CQ DI DH nQ hE9 hMN HI9' AH vC Fg
     go_wp2_with (first|refine dc (b:=b5) (x:=r) (v:=.slice A1 r.l.length c1) rfl _ rfl rfl (mX.out Wg Ct.out) ?_|refine dc (b:=b8) (x:=⟨0,vv,[]⟩) (v:=.slice A5 k5 c5) rfl _ rfl rfl HX8'.out ?_)
     refine (jp (HU.out Wg Ct.out) HRY'.out vF.out.l CK.out).mono ?_
     rintro e Wh ⟨rfl,hcd⟩
     have nX:=ah hcd
     clear hcd
     cases oN:da r ⟨0,vv,[]⟩ with
     | false =>
      obtain ⟨rfl,rfl⟩:=nN.out.2 oN
      clear oN
      go_wp2_with fail
      go_ret
      exact ⟨rfl,lU.out _ (Ct.out.stay nX.out)⟩
     | true =>
      obtain ⟨rfl,qK⟩:=nN.out.1 oN
      have CF:=ah qK
      clear oN qK
      have pZ:=ah (Cx.out.stay nX.out)
      have nY:=ah (And.intro (SO.one Cx.out.ob.sl) (SW.one Cx.out.ev.sl))
      go_wp2_with (first|refine jy (b:=b7) (c:=N9.c) (sp:=sp8) (vo:=vo9) (ve:=ve9) rfl _ rfl rfl pZ.out.blk ?_|refine jl (b:=m) (c:=N9.c) (sp:=sp8) (vo:=vo9) (ve:=ve9) rfl _ _ rfl rfl rfl nY.out.1 nY.out.2 (HI.out Wh (Ct.out.stay nX.out)).blk ?_;intro Wi he yQ;have AE:=ah he;have rH:=ah yQ;clear he yQ)
      go_ret
      refine ⟨rfl,?_⟩
      rw [CF.out]
      have hI:=WIn.take (HI.out Wh (Ct.out.stay nX.out)).blk pZ.out AE.out rH.out
      have Ay:=nX.out.size
      have BZ:=rH.out.size
      have Ca:=(jU.out.stay Ct.out).size
      have uH:O m:=Ag.out.1 m (.inl rfl)
      have pL:=Ag.out.2 m uH
      have lF:Chg [m] w Wi:=((jU.out.stay (Ct.out.stay nX.out)).up [m]).and_ rH.out
      have lO:∀k,FW' N9 m vo9 ve9 L9 gb8 gm8 k→(k = m∨w.heap.size≤k)∧k < Wi.heap.size:=fun k hk=>by
       rcases hk with h | h
       ·exact ⟨.inl h,by omega⟩
       ·have:=Cv.out k (.inr h)
        exact ⟨.inr this.1,by omega⟩
      refine ⟨CP.of lF (fun y hy=>.inl (by obtain rfl:=aa hy;exact uH)),fun k=>FW' N9 m vo9 ve9 L9 gb8 gm8 k,⟨_,_,_,_,_,_,_,_,hI,fun k hk=>hk,fun k hk=>(lO k hk).2,xQ.out.1,xQ.out.2⟩,fun k hk=>?_⟩
      rcases (lO k hk).1 with h | h
      ·exact .inl (h ▸ uH)
      ·exact .inr h
   ·have CT:=(ans17 rK r.v).1 (show (bj M x 0).1.e = 0 from by rw [jC.out] at h0;unfold doA at h0;rw [if_neg (by omega)] at h0;exact h0)
    have hRe:RR = (⟨0,0,[]⟩,none):=by rw [jC.out];unfold doA;rw [if_neg (by omega)];exact CT.1
    subst hRe
    obtain ⟨nn,wP,wO⟩:∃n:Nat,M.c 0 = n∧n≤1000:=by
     have h:=mayB_iff.1 (fq mL.out).1
     have h1:=h.n1
     have h2:=h.n8
     exact ⟨(M.c 0).toNat,by omega,by omega⟩
    have xK:=ah (show SB = da r ⟨0,min r.v nn,[]⟩∧SM = M from by
     rw [vZ.out.1,vZ.out.2,CT.2,wP,Int.toNat_natCast]
     refine ⟨rfl,?_⟩
     show (if _ then (none:Option Mo).getD M else M) = M
     split <;> rfl)
    have sT:=ah (sg 17 W6)
    rw [show ((17:Nat) == 10 || (17:Nat) == 17) = true from rfl] at sT
    have HK:=ah rK
    have CA:=ah (And.intro wP wO)
    have xV:=ah (show N8 = M from by rw [BA.out];rfl)
    rw [HK.out] at c0'
    obtain ⟨vv,DJ⟩:∃vv:Nat,vv = r.v:=⟨_,rfl⟩
    rw [← DJ] at p1
    have wX:=ah DJ
    clear h0 rK CT wP wO DJ
    go_wp2_with fail
    refine sT.out.mono ?_
    rintro e W6' ⟨rfl,rfl⟩
    go_upto_region 9 with (fail)
    have Ax:=XB.set_v H6.out vv
    have kE:Chg [b8] W6 (W6.setCell ⟨b8,1,none⟩ (.int .u64 vv)):=(Chg.refl [b8] W6).setCell (p:=⟨b8,1,none⟩) (.inl (by simp)) _
    clear c0' s6 l4 p1 l5 q0 q1 ql qf1
    generalize W6.setCell ⟨b8,1,none⟩ (.int .u64 vv) = W7 at Ax kE ⊢
    refine rgt [0,1,0,0,0,1,0,0,0,0,1,0,0,0,0,0,1,0,0,0,1,0,0,0,0,1,3,0,0,0] [none,none,none,none,some (47,true),some (47,true),some (47,true),some (47,true),some (47,true),some (47,true),some (47,true),some (47,true),some (47,true),none,none,some (58,false),some (58,false),some (58,false),some (58,false),some (62,true),some (62,true),some (62,true),some (62,true),some (66,false),some (66,false),some (66,false),some (66,false),some (62,true),some (58,false),none] (fun _=>True) ?_
    have zS:=Blk.drew Ax
    have mP:=kE.drew
    generalize W7.drew = W8 at zS mP ⊢
    have nW:=ah (show Chg [] W5 W8 from oK.out.trans mP (fun y hy=>.inr (by obtain rfl:=aa hy;exact Nat.le_of_eq vY.out.symm)))
    have lL:=ah (jL.out.stay nW.out)
    have yF:=ah zS
    have Eh:=ah (AO.out.stay nW.out)
    clear Ax kE zS mP
    obtain ⟨r0,-,-,-,-,-,r6,-,-,-,-,-,l4,-⟩:=KB.cells (jW.out W8 lL.out)
    rw [HK.out] at r0
    obtain ⟨-,p1,-,l5,-⟩:=XB.cells (mX.out W8 lL.out)
    rw [← wX.out] at p1
    have lm:=Blk.lt (HI.out W8 lL.out).blk
    have m0:=WB.c0 (HI.out W8 lL.out).blk
    rw [CA.out.1] at m0
    have hwu:IntKind.u64.wrap (nn:Int) = (nn:Int):=by rw [IntKind.wrap_u64];have:=CA.out.2;omega
    by_cases qF:nn < vv
    ·have d1:decide ((nn:Int) < (vv:Int)) = true:=ae (by omega)
     have d1':decide (nn < vv) = true:=ae qF
     have nN:=ah (show SB = false∧SM = M from by
      refine ⟨?_,xK.out.2⟩
      rw [xK.out.1]
      cases hs:da r ⟨0,min r.v nn,[]⟩ with
      | false=>rfl
      | true =>
       have:=congrArg Rs.v ((gw _ _).1 hs)
       simp only at this
       have h2:=wX.out
       omega)
     clear qF
     go_upto_region 10 with (first|refine ay ?_ ?_;(focus (simp [bb,undef];done));go_simp|refine ao fun K I=>?_;go_simp;refine (qh (HI.out W8 lL.out) vv).mono ?_;rintro e W8' ⟨rfl,rfl⟩;refine I _ _ ?_;clear I K|refine av fun K I=>?_|refine ay ?_ ?_;(focus (simp [bb];done));go_simp|refine bh ?_ ?_;(focus (simp [bb];done))|refine ai fun K I=>?_;go_simp;refine I _ _ ?_;clear I K|refine ao fun K I=>?_;go_simp|refine aj ?_)
     obtain ⟨rfl,rfl⟩:=nN.out
     go_wp2_with fail
     go_ret
     exact ⟨rfl,lU.out _ lL.out⟩
    ·have d1:decide ((nn:Int) < (vv:Int)) = false:=ac (by omega)
     have d1':decide (nn < vv) = false:=ac qF
     have nN:=ah (show (da r ⟨0,vv,[]⟩ = true→SB = true∧SM = N8)∧(da r ⟨0,vv,[]⟩ = false→SB = false∧SM = M) from by
      rw [xK.out.1,xK.out.2,xV.out,show min r.v nn = vv by have:=wX.out;omega]
      exact ⟨fun h=>⟨h,rfl⟩,fun h=>⟨h,rfl⟩⟩)
     clear qF
     go_upto_region 11 with (first|refine ay ?_ ?_;(focus (simp [bb,undef];done));go_simp|refine ao fun K I=>?_;go_simp;refine (qh (HI.out W8 lL.out) vv).mono ?_;rintro e W8' ⟨rfl,rfl⟩;refine I _ _ ?_;clear I K|refine av fun K I=>?_|refine ay ?_ ?_;(focus (simp [bb];done));go_simp|refine bh ?_ ?_;(focus (simp [bb];done))|refine ai fun K I=>?_;go_simp;refine I _ _ ?_;clear I K|refine ao fun K I=>?_;go_simp|refine aj ?_)
     clear m0 hwu d1 d1'
     go_upto_region 14 with (fail)
     have tW:=ah (HI8.out.stay nW.out)
     have Cv:=ah (show ∀k,FW' N8 b7 vo8 ve7 L8 gb8 gm8 k→w.heap.size≤k∧k < W8.heap.size from fun k hk=>by have h1:=Bx.out k hk;have h2:=nW.out.size;have h3:=(jU.out.stay jE.out).size;omega)
     have xQ:=ah (show L8.length≤N+1∧E.length≤N+1 from by have h1:=HL8.out;have h2:=oX.out;omega)
     have CK:=ah (show ∀b∈(⟨0,vv,[]⟩:Rs).l,b < 256 from fun b hb=>by cases hb)
     clear r0 r6 l4 p1 l5 lm
     go_wp2_with (first|refine dc (b:=b5) (x:=r) (v:=.slice A1 r.l.length c1) rfl _ rfl rfl (mX.out W8 lL.out) ?_|refine dc (b:=b8) (x:=⟨0,vv,[]⟩) (v:=.slice A5 k5 c5) rfl _ rfl rfl yF.out ?_)
     refine (jp (HU.out W8 lL.out) Eh.out vF.out.l CK.out).mono ?_
     rintro e Wd ⟨rfl,hcd⟩
     have nX:=ah hcd
     clear hcd
     cases oN:da r ⟨0,vv,[]⟩ with
     | false =>
      obtain ⟨rfl,rfl⟩:=nN.out.2 oN
      clear oN
      go_wp2_with fail
      go_ret
      exact ⟨rfl,lU.out _ (lL.out.stay nX.out)⟩
     | true =>
      obtain ⟨rfl,qK⟩:=nN.out.1 oN
      have CF:=ah qK
      clear oN qK
      have pZ:=ah (tW.out.stay nX.out)
      have nY:=ah (And.intro (SO.one tW.out.ob.sl) (SW.one tW.out.ev.sl))
      go_wp2_with (first|refine jy (b:=b7) (c:=N8.c) (sp:=sp8) (vo:=vo8) (ve:=ve7) rfl _ rfl rfl pZ.out.blk ?_|refine jl (b:=m) (c:=N8.c) (sp:=sp8) (vo:=vo8) (ve:=ve7) rfl _ _ rfl rfl rfl nY.out.1 nY.out.2 (HI.out Wd (lL.out.stay nX.out)).blk ?_;intro We he yQ;have AE:=ah he;have rH:=ah yQ;clear he yQ)
      go_ret
      refine ⟨rfl,?_⟩
      rw [CF.out]
      have hI:=WIn.take (HI.out Wd (lL.out.stay nX.out)).blk pZ.out AE.out rH.out
      have Ay:=nX.out.size
      have BZ:=rH.out.size
      have Ca:=(jU.out.stay lL.out).size
      have uH:O m:=Ag.out.1 m (.inl rfl)
      have pL:=Ag.out.2 m uH
      have lF:Chg [m] w We:=((jU.out.stay (lL.out.stay nX.out)).up [m]).and_ rH.out
      have lO:∀k,FW' N8 m vo8 ve7 L8 gb8 gm8 k→(k = m∨w.heap.size≤k)∧k < We.heap.size:=fun k hk=>by
       rcases hk with h | h
       ·exact ⟨.inl h,by omega⟩
       ·have:=Cv.out k (.inr h)
        exact ⟨.inr this.1,by omega⟩
      refine ⟨CP.of lF (fun y hy=>.inl (by obtain rfl:=aa hy;exact uH)),fun k=>FW' N8 m vo8 ve7 L8 gb8 gm8 k,⟨_,_,_,_,_,_,_,_,hI,fun k hk=>hk,fun k hk=>(lO k hk).2,xQ.out.1,xQ.out.2⟩,fun k hk=>?_⟩
      rcases (lO k hk).1 with h | h
      ·exact .inl (h ▸ uH)
      ·exact .inr h
end Go.Proofs.YtfoleblcaloeoaaGreatDoor
