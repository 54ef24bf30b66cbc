/- Texts merged for the claim. -/
import Derived.Test.YtfoleblcaloeoaaGreatDoorZav
import Derived.Test.YtfoleblcaloeoaaGreatDoorZaw
set_option maxHeartbeats 40000000
set_option maxRecDepth 20000
namespace Go.Proofs.YtfoleblcaloeoaaGreatDoor
open Go Go.RowKit
theorem free_do {w:World} {m b1 b2:Nat} {M:Mo} {O:Nat→Prop} {x:Cl} {v:Value} (h:MMem w m M O) (h1:Blk w b1 30 #[.pointer (some ⟨m,0,none⟩)]) (h2:KB w b2 x v) :
  Calls Tryz.prog 93 #[.pointer (some ⟨b1,0,none⟩),.pointer (some ⟨b2,0,none⟩)] w fun e W'=>e = .returned (.tuple #[])∧CP O w W'∧∃O',MMem W' m { M with ob:=upd M.ob x.h none } O'∧∀k,O' k→O k∨w.heap.size≤k:=by
 obtain ⟨bp,bo,be,fp,fo,fe,gb,GF,ov,hI,hO,hl⟩:=h
 have lT:=ah (fun W (hc:Chg [bo] w W)=>@free_end w W m M O bp bo be fp fo fe gb GF ov hI hO hl x.h hc)
 have q1:w.cell? ⟨b1,0,none⟩ = some (.pointer (some ⟨m,0,none⟩)):=by simpa using h1.cell 0
 obtain ⟨-,-,-,-,-,-,-,-,-,-,c10,-,cl,-⟩:=KB.cells h2
 obtain ⟨-,qo,-,qm,-⟩:=cc hI.blk
 have l1:=h1.lt
 have Ec:=ah (show MapB w.drew bo .u64 fo from hI.mo)
 clear hI hO hl h1 h2
 go_enter Tryz.func93,Tryz.ntmps93
 refine rgn7 [1,0,0,1,0,1,3] ?_
 go_wp2_with (first|refine ao fun K I=>?_;refine nw _ _ rfl Tryz.underlying59 Tryz.underlying37 rfl rfl Ec.out ?_;intro W5 h5 U;refine I _ _ ?_;clear I K|refine av fun K I=>?_|refine ai fun K I=>?_;go_simp;refine I _ _ ?_;clear I K|refine ao fun K I=>?_;go_simp|refine aj ?_)
 go_end0
 exact ⟨rfl,lT.out W5 ((Chg.refl [bo] w).drew.and_ U) h5⟩
theorem aT {α:Type} {L:List α} {off n a k:Nat} {cs:List α} (h1:off+n≤L.length) (h2:a+k≤n) (h3:cs.length = k) :
  ((L.take (off+a) ++ cs ++ L.drop (off+a+k)).drop off).take n = ((L.drop off).take n).take a ++ cs ++ ((L.drop off).take n).drop (a+k):=by
 refine List.ext_getElem? fun i=>?_
 simp only [List.getElem?_take,List.getElem?_drop,List.getElem?_append,List.length_append,List.length_take,List.length_drop]
 have e1:min (off+a) L.length = off+a:=by omega
 have e2:min a (min n (L.length - off)) = a:=by omega
 rw [e1,e2,h3]
 by_cases h4:i < n
 ·rw [if_pos h4]
  by_cases h5:i < a
  ·rw [if_pos (show off+i < off+a+k by omega),if_pos (show off+i < off+a by omega),if_pos (show off+i < off+a by omega),if_pos (show i < a+k by omega),if_pos h5,if_pos h5,if_pos h4]
  ·by_cases h6:i < a+k
   ·rw [if_pos (show off+i < off+a+k by omega),if_neg (show ¬ off+i < off+a by omega),if_pos h6,if_neg h5]
    congr 1
    omega
   ·rw [if_neg (show ¬ off+i < off+a+k by omega),if_neg h6,if_pos (show a+k+(i - (a+k)) < n by omega)]
    congr 1
    omega
 ·rw [if_neg h4,if_neg (show ¬ i < a+k by omega),if_neg (show ¬ a+k+(i - (a+k)) < n by omega)]
theorem RE.sub {w:World} {g off n c at_ k:Nat} {B:List Nat} (h:RB w (.slice (some ⟨g,off,none⟩) n c) B) (hn:at_+k≤B.length) (hc:B.length≤c):RB w (.slice (some ⟨g,off+at_,none⟩) k (c - at_)) ((B.drop at_).take k):=by
 have hl:((B.drop at_).take k).length = k:=by rw [List.length_take,List.length_drop];omega
 refine ⟨by rw [ef jb],_,c - at_,by rw [hl],by rw [hl];omega,fun hp=>⟨g,off+at_,rfl,fun j u hu=>?_⟩⟩
 rw [hl] at hp
 rw [mv,List.getElem?_map,List.getElem?_take] at hu
 by_cases hj:j < k
 ·rw [if_pos hj,List.getElem?_drop] at hu
  obtain ⟨_,A,c',e,_,AZ⟩:=h
  obtain ⟨g',off',e',nR⟩:=AZ (by omega)
  rw [e'] at e
  injection e with e _ _
  injection e with e
  injection e with ea eb
  subst ea;subst eb
  have:=nR (at_+j) u (by rw [mv,List.getElem?_map];exact hu)
  rwa [Nat.add_assoc]
 ·rw [if_neg hj] at hu;cases hu
theorem SB.copy {w:World} {g off n c a:Nat} {B l:List Nat} {v:Value} (h:SB w (.slice (some ⟨g,off,none⟩) n c) B) (hv:RB w v l) (h1:1≤l.length) (hn:a+l.length≤n) :
  ∃w' u,(∀ty,(Builtin.copy_ #[38,38] ty #[.slice (some ⟨g,off+a,none⟩) (n - a) (c - a),v]).run Tryz.prog w = .ok u w')∧SB w' (.slice (some ⟨g,off,none⟩) n c) (cj B a l)∧Chg [g] w w':=by
 obtain ⟨A,c',rfl⟩:=RE.form hv
 obtain ⟨g',off',rfl⟩:=RE.addr hv (by omega)
 have An:(fc ucl l).length = l.length:=by rw [mv,List.length_map]
 obtain ⟨hB,⟨e,_⟩ | ⟨g1,off1,cap,cur,e,hb,h4,h5,h6,h7⟩⟩:=h
 ·cases e
 injection e with e e2 e3
 injection e with e
 injection e with ea eb
 subst ea;subst eb;subst e2;subst e3
 rw [mv,List.length_map,Nat.mul_one] at hB
 have DD:∀j u,(fc ucl l)[j]? = some u→w.cell? ((⟨g',off',none⟩:Addr).add j) = some u:=fun j u hu=>by
  obtain ⟨_,A',c',e,_,AZ⟩:=hv
  obtain ⟨g2,off2,e',hc⟩:=AZ (by omega)
  rw [e'] at e
  injection e with e _ _
  injection e with e
  injection e with ea eb
  subst ea;subst eb
  rw [Addr.add_lit]
  exact hc j u hu
 have jN:(cj B a l).length = B.length:=nb (by omega)
 refine ⟨_,_,fun ty=>run_copy_row Tryz.prog w _ _ ty 5 g (off+a) (B.length - a) (c - a) ⟨g',off',none⟩ l.length c' cur _ (fc ucl l) Tryz.underlying38 info5s hb (by rw [An];exact (Nat.min_eq_left (by omega)).symm) DD (by rw [An];omega) (vq l),?_,(Chg.refl [g] w).setRow (.inl (by simp)) _⟩
 unfold SB SE
 rw [jN]
 refine ⟨by rw [mv,List.length_map,jN,Nat.mul_one],.inr ⟨g,off,c,_,rfl,setRow_heap w g cur _ _ _ hb,h4,h5,?_,?_⟩⟩
 ·simp only [List.size_toArray,List.length_append,List.length_take,List.length_drop,Array.length_toList,An]
  omega
 ·show List.take (B.length * 1) (List.drop off (cur.toList.take (off+a) ++ fc ucl l ++ cur.toList.drop (off+a+(fc ucl l).length))) = _
  have h9:off+B.length≤cur.toList.length:=by simp only [Array.length_toList];omega
  have kK:a+l.length≤B.length:=hn
  rw [An,Nat.mul_one,aT h9 kK An]
  rw [Nat.mul_one] at h7
  rw [h7]
  unfold cj
  simp only [mv,List.map_append,List.map_take,List.map_drop]
theorem poke_do {w:World} {m b6 b3:Nat} {M:Mo} {O:Nat→Prop} {bp bo be:Nat} {fp fo fe:Int→Option Value} {gb:Int→Nat} {GF:Int→Nat→Prop} {ov:Int→Value}
  (hI:MIn w m M bp bo be fp fo fe gb GF ov) (hO:∀k,FMo M m bp bo be GF ov k→O k) (hl:∀k,O k→k < w.heap.size) {x:Cl} {v:Value} {B:List Nat} (hz:M.ob x.h = some B)
  {g off n c an:Nat} (uU:ov x.h = .slice (some ⟨g,off,none⟩) n c) (h6:Blk w b6 38 #[.slice (some ⟨g,off,none⟩) n c]) (h3:KB w b3 x v) (hv:RB w v x.l) (rL:x.a = (an:Nat)) (h1:1≤x.l.length) (hn:an+x.l.length≤B.length) (rM:∀y∈x.l,y < 256) :
  Calls Tryz.prog 94 #[.pointer (some ⟨b6,0,none⟩),.pointer (some ⟨b3,0,none⟩)] w fun e W'=>e = .returned (.tuple #[])∧CP O w W'∧∃O',MMem W' m { M with ob:=upd M.ob x.h (some (cj B an x.l)) } O'∧∀k,O' k→O k∨w.heap.size≤k:=by
 have xD:=hI.ob x.h B hz
 rw [uU] at xD
 have hnB:n = B.length∧n≤c:=by
  obtain ⟨A,c',e⟩:=SE.form xD.1
  obtain ⟨A2,c2,e2,h4,_⟩:=Sl.cap_le xD.1
  injection e with _ e _
  injection e2 with _ e3 e4
  omega
 have lT:=ah (fun W (hc:Chg (own (ov x.h)) w W) (hS:SB W (ov x.h) (cj B an x.l))=>@poke_end w W m M O bp bo be fp fo fe gb GF ov hI hO hl x.h B hz an x.l hn rM hc hS)
 rw [uU] at lT
 obtain ⟨W5,u5,oD,AX,U⟩:=SB.copy (w:=w.drew) (show SB w.drew (.slice (some ⟨g,off,none⟩) n c) B from xD.1) (show RB w.drew v x.l from hv) h1 (show an+x.l.length≤n by omega)
 have q6:w.cell? ⟨b6,0,none⟩ = some (.slice (some ⟨g,off,none⟩) n c):=by simpa using h6.cell 0
 obtain ⟨-,-,-,-,-,c5,-,-,-,-,-,q3,l3,-⟩:=KB.cells h3
 rw [rL] at c5
 have l6:=h6.lt
 have n1:(0:Int)≤(an:Int):=by omega
 have n2:(an:Int)≤(n:Int):=by omega
 have n3:¬ (an:Int) = (n:Int):=by omega
 have n4:¬ an = n:=by omega
 have n5:¬ (an:Int) = (c:Int):=by omega
 have n6:¬ an = c:=by omega
 have n7:(n:Int)≤(c:Int):=by omega
 have nZ:=ah oD
 have mX:=ah AX
 have jL:=ah U
 clear hI hO hl hz uU h6 h3 hv rL h1 hn rM xD hnB oD AX U
 go_enter Tryz.func94,Tryz.ntmps94
 refine rgn7 [1,0,1,0,0,1,3] ?_
 go_wp2_with (first|refine ao fun K I=>?_;refine uz _ _ rfl rfl rfl nZ.out ?_;refine I _ _ ?_;clear I K|refine av fun K I=>?_|refine ai fun K I=>?_;go_simp;refine I _ _ ?_;clear I K|refine ao fun K I=>?_;go_simp|refine aj ?_)
 go_end0
 exact ⟨rfl,lT.out W5 ((((Chg.refl [] w).drew).then_ (jL.out)).mono (fun y hy=>.inl (by simpa [gh] using hy))) mX.out⟩
theorem xv {a b:Nat} (h1:a≤1000) (h2:b≤1000):wrap64 ((a:Int)+(b:Int)) = (a:Int)+(b:Int):=by unfold wrap64;omega
theorem sk {w:World} {m:Nat} {M:Mo} {O:Nat→Prop} {X:List Nat} {bp bo be:Nat} {fp fo fe:Int→Option Value} {gb:Int→Nat} {GF:Int→Nat→Prop} {ov:Int→Value}
  (hI:MIn w m M bp bo be fp fo fe gb GF ov) (hO:∀k,FMo M m bp bo be GF ov k→O k) (hl:∀k,O k→k < w.heap.size) {x:Cl} {v:Value} (hv:RB w v x.l) (hX:x.l≠[]→∀k∈own v,k∈X) (rM:∀y∈x.l,y < 256) (hk:x.k = 11∨x.k = 12∨x.k = 13)
  (hx:x.k≠11→0≤x.a∧x.a≤128∧(x.k = 12→x.l = []∧1≤x.s∧x.s≤128)∧(x.k = 13→x.s = 0∧1≤x.l.length∧x.l.length≤128)) :
  Calls Tryz.prog 65 #[.pointer (some ⟨m,0,none⟩),.agg (clc x v)] w fun e w'=>AnsR w w' m O X (fh M x) e∧Chg [] w w':=by
 obtain ⟨A0,c0,rfl⟩:=RE.form hv
 obtain ⟨W2,jB⟩:∃W2,W2 = ((w.alloc (.cells #[.pointer (some ⟨m,0,none⟩)] 30)).alloc (.cells (clc x (.slice A0 x.l.length c0)) 47)).alloc (.cells (rsc zRs zV) 40):=⟨_,rfl⟩
 have jA:Chg [] w W2:=by rw [jB];exact (((Chg.refl [] w).alloc _).alloc _).alloc _
 have kU:Blk W2 w.heap.size 30 #[.pointer (some ⟨m,0,none⟩)]:=by rw [jB];exact ((Blk.new w _ _).alloc _).alloc _
 have jS:KB W2 (w.heap.size+1) x (.slice A0 x.l.length c0):=by
  have:=Blk.new (w.alloc (.cells #[.pointer (some ⟨m,0,none⟩)] 30)) 47 (clc x (.slice A0 x.l.length c0))
  rw [af] at this
  rw [jB]
  exact this.alloc _
 have kQ:XB W2 (w.heap.size+1+1) zRs zV:=by
  have:=Blk.new ((w.alloc (.cells #[.pointer (some ⟨m,0,none⟩)] 30)).alloc (.cells (clc x (.slice A0 x.l.length c0)) 47)) 40 (rsc zRs zV)
  rw [af,af] at this
  rw [jB]
  exact this
 obtain ⟨b2,e2⟩:∃b,b = w.heap.size:=⟨_,rfl⟩
 obtain ⟨b3,e3⟩:∃b,b = w.heap.size+1:=⟨_,rfl⟩
 obtain ⟨b4,e4⟩:∃b,b = w.heap.size+1+1:=⟨_,rfl⟩
 rw [← e4] at kQ
 rw [← e3] at jS
 rw [← e2] at kU
 have HE:=ah (And.intro e2 (And.intro e3 e4))
 have HI:=ah (fun W (h:Chg [] W2 W)=>hI.stay (jA.stay h))
 have nC:=ah (fun W (h:Chg [] W2 W)=>kU.chg h ab)
 have jY:=ah (fun W (h:Chg [] W2 W)=>KB.stay jS h)
 have jW:=ah kQ
 have jU:=ah jA
 have jP:=ah jB
 obtain ⟨A6,n6,c6',th,hu⟩:∃(A6:Option Addr) (n6 c6':Nat) (th:Bool),(th = true∧Value.slice A6 n6 c6' = ov x.h∧∃B,M.ob x.h = some B)∨(th = false∧Value.slice A6 n6 c6' = .slice none 0 0∧M.ob x.h = none):=by
  cases h:M.ob x.h with
  | some B =>
   obtain ⟨A,c,e⟩:=SE.form (hI.ob x.h B h).1
   exact ⟨A,B.length,c,true,.inl ⟨rfl,e.symm,B,rfl⟩⟩
  | none=>exact ⟨none,0,0,false,.inr ⟨rfl,rfl,rfl⟩⟩
 have HU:=ah hu
 have rA:=ah (show ∀W,Chg [] W2 W→(Instr.lookup 59 (.map (some bo)) (.int .u64 x.h) true).run Tryz.prog W = .ok (.tuple #[.slice A6 n6 c6',.bool th]) W from fun W h=>by
  rcases hu with ⟨rfl,e,B,hb⟩ | ⟨rfl,e,hb⟩ <;> rw [e]
  ·exact dy Tryz.underlying59 Tryz.underlying37 (HI.out W h).mo (by rw [(HI.out W h).ho,hb];rfl) true
  ·exact ej Tryz.underlying59 Tryz.underlying37 (HI.out W h).mo (by rw [(HI.out W h).ho,hb];rfl) (fD W) true)
 have HM:=ah (show MMem w m M O from ⟨bp,bo,be,fp,fo,fe,gb,GF,ov,hI,hO,hl⟩)
 have HH:=ah (And.intro hI (And.intro hO hl))
 have HV:=ah (And.intro hv rM)
 have lJ:=ah hX
 have HX:=ah hx
 have HK:=ah hk
 clear hI hO hl hv hX rM kU jS kQ jA jB e2 e3 e4 hx hk hu
 go_enter Tryz.func65,Tryz.ntmps65
 go_upto_region 1 with (first|refine ax rfl _ rfl rfl ?_;try simp only [af]|refine bn rfl rfl ?_;try simp only [af];try rw [← jP.out])
 rw [← HE.out.2.2,← HE.out.2.1,← HE.out.1]
 go_cut [6,7] from 8 to 17 (fun z6 z7 W=>∃b6,z6 = .pointer (some ⟨b6,0,none⟩)∧z7 = .bool th∧Blk W b6 38 #[.slice A6 n6 c6']∧Chg [] W2 W∧W2.heap.size≤b6)
 case first =>
  refine rgt [5,0,0,5,0,5,5,0,0,0,6,3,0] [none,none,none,none,none,none,none,none,none,none,none,none,none] (fun W=>Chg [] W2 W) ?_
  have hS:Chg [] W2 W2.drew:=(Chg.refl [] W2).drew
  generalize W2.drew = W0 at hS ⊢
  go_wp2_with (first|refine al 30 _ rfl rfl (fun w' J=>dk Tryz.underlying30 (by simpa using (nC.out w' J).cell 0)) hS ?_|refine al 59 _ rfl rfl (fun w' J=>ca Tryz.underlying59 (cc (HI.out w' J).blk).2.1) hS ?_|refine al 37 _ rfl rfl (fun w' J=>cr Tryz.underlying37 (KB.cells (jY.out w' J)).2.2.2.2.2.2.2.2.2.2.1) hS ?_|refine ly 59 _ _ true rfl rfl rfl (fun w' J=>rA.out w' J) hS ?_|refine av fun K I=>?_|refine ai fun K I=>?_;go_simp;refine I _ _ ?_;clear I K|refine ao fun K I=>?_;go_simp|refine aj ?_)
  (refine aw hS fun K I=>?_)
  go_simp
  refine I _ _ (hS.alloc _) ?_
  clear I K
  go_wp2_with (first|refine av fun K I=>?_|refine ai fun K I=>?_;go_simp;refine I _ _ ?_;clear I K|refine ao fun K I=>?_;go_simp|refine aj ?_)
  go_meet
  case rel=>exact ⟨_,rfl,rfl,Blk.new W0 _ _,hS.alloc _,hS.size⟩
 obtain ⟨b6,rfl,rfl,h6,lC,Gh⟩:=hcut
 have H6:=ah h6
 have kA:=ah lC
 have HG6:=ah Gh
 have nB:=ah (fun e W=>kh e W)
 have kD:=ah (XB.stay jW.out lC)
 have HR:=ah (show ∀(R:Rs) W7 A n c,Chg [b4] wc W7→(R,(none:Option Mo)) = fh M x→RB W7 (.slice A n c) R.l→(∀k∈own (.slice A n c),O k∨w.heap.size≤k)→AnsR w W7 m O X (fh M x) (.returned (.tuple #[.agg (rsc R (.slice A n c)),.nilFunc]))∧Chg [] w W7 from fun R W7 A n c h2 h3 h4 h5=>by
  rw [← h3]
  exact ⟨⟨A,n,c,.nilFunc,rfl,h4,h5,rfl⟩,(jU.out.stay lC).trans h2 (fun y hy=>.inr (by obtain rfl:=aa hy;have:=HE.out;omega))⟩)
 obtain ⟨c0',-,-,-,-,c5,c6,-,-,-,-,c11,l3,-⟩:=KB.cells (jY.out wc lC)
 clear h6 Gh rA
 rcases HU.out with ⟨rfl,hu,B,hB⟩ | ⟨rfl,hu,hB⟩
 case inr =>
  have HO:=ah (show ((aq 120,none):Rs × Option Mo) = fh M x by unfold fh;rw [hB])
  clear hu hB c0' c5 c6 c11 l3 lC
  go_wp2_with fail
  refine (nB.out _ _).mono ?_
  rintro e W6 ⟨rfl,iZ⟩
  have pH:=ah (XB.stay kD.out iZ)
  have kR:=ah iZ
  clear iZ
  go_wp2_with (first|refine au (b:=b4) (y:=aq 120) (u:=zV) rfl _ _ rfl rfl rfl rfl pH.out ?_;intro W7 h7 jI)
  exact bodyPost_ret (v:=.tuple #[.agg (rsc (aq 120) zV),.nilFunc]) (bf (p:=4) (q:=5) rfl _ rfl h7) rfl (HR.out (aq 120) W7 none 0 0 ((kR.out.up [b4]).and_ jI) HO.out (RE.nil _ _ _ _ _) (fun _ h=>(bw h).elim))
 by_cases mM:x.k = 11
 ·have HO:=ah (show fh M x = (aq 0,some { M with ob:=upd M.ob x.h none }) by unfold fh;rw [hB];simp only [mM,if_true])
  rw [mM] at c0'
  clear hu hB c5 c6 c11 lC mM
  go_wp2_with fail
  refine (nB.out _ _).mono ?_
  rintro e W6 ⟨rfl,iZ⟩
  have pH:=ah (XB.stay kD.out iZ)
  have kR:=ah iZ
  clear iZ
  go_wp2_with (first|refine au (b:=b4) (y:=aq 0) (u:=zV) rfl _ _ rfl rfl rfl rfl pH.out ?_;intro W7 h7 jI)
  have mA:Chg [b4] wc W7:=(kR.out.up [b4]).and_ jI
  have lF:Chg [] w W7:=(jU.out.stay kA.out).trans mA (fun y hy=>.inr (by obtain rfl:=aa hy;have:=HE.out;omega))
  have he:=HE.out
  refine bodyPost_ret (v:=.tuple #[.agg (rsc (aq 0) zV),.func (.func 93) #[] #[.pointer (some ⟨b2,0,none⟩),.pointer (some ⟨b3,0,none⟩)]]) (bf (p:=4) (q:=5) rfl _ rfl h7) rfl ⟨?_,lF⟩
  rw [HO.out]
  refine ⟨none,0,0,_,rfl,RE.nil _ _ _ _ _,(fun _ h=>(bw h).elim),_,_,rfl,oc Tryz.func93 (by kernel_rfl) (by kernel_rfl),fun G W hG hW=>(free_do (HM.out.off (hG.cp lF hW)) (((nC.out wc kA.out).chg mA (by simp;omega)).chg hW (hG.new (by omega))) (show KB W b3 x (.slice A0 x.l.length c0) from Blk.chg (Blk.chg (jY.out wc kA.out) mA (by simp;omega)) hW (hG.new (by omega)))).mono ?_⟩
  rintro e W' ⟨rfl,k1,O',k2,k3⟩
  exact ⟨rfl,k1.or,O',k2,fun k hk=>(k3 k hk).imp id (fun h=>ag (ag lF.size hW.size) h)⟩
 have lW:=((HI.out wc lC).ob x.h B hB)
 rw [← hu] at lW
 obtain rfl:n6 = B.length:=by
  obtain ⟨_,_,e⟩:=SE.form lW.1
  injection e
 obtain ⟨Aw,EG,DK,BX⟩:=HX.out mM
 obtain ⟨an,rL⟩:∃n:Nat,x.a = n:=⟨x.a.toNat,by omega⟩
 have rU:B.length≤c6':=by
  obtain ⟨A2,c2,e2,h4,_⟩:=Sl.cap_le lW.1
  injection e2 with _ _ e4
  omega
 have hB8:=lW.2.2
 have q6:wc.cell? ⟨b6,0,none⟩ = some (.slice A6 B.length c6'):=by simpa using H6.out.cell 0
 have l6:=H6.out.lt
 rcases (show x.k = 12∨x.k = 13 from HK.out.resolve_left mM) with vJ | AW
 ·obtain ⟨vV,qU,pC⟩:=DK vJ
  obtain ⟨sn,qK⟩:∃n:Nat,x.s = n:=⟨x.s.toNat,by omega⟩
  have As:∀(ts:Array TypeId) (ty:TypeId) (W:World),(Builtin.max_ ts ty #[.int .i64 (sn:Int),.int .i64 0]).run Tryz.prog W = .ok (.int .i64 (sn:Int)) W:=fun ts ty W=>by
   rw [Ar.run_max]
   rw [show max (sn:Int) 0 = sn by omega]
  have oT:fh M x = if B.length < an+sn then (aq 2,none) else (⟨0,0,(B.drop an).take sn⟩,none):=by
   have e:max x.s (x.l.length:Int) = sn:=by rw [vV,qK,List.length_nil];exact Int.max_eq_left (by omega)
   unfold fh
   rw [hB]
   show (if x.k = 11 then _ else if (B.length:Int) < x.a+max x.s x.l.length then _ else if x.k = 12 then _ else _) = _
   rw [if_neg mM,e,rL,if_pos vJ]
   by_cases h:B.length < an+sn
   ·rw [if_pos h,if_pos (show (B.length:Int) < (an:Int)+(sn:Int) by omega)]
   ·rw [if_neg h,if_neg (show ¬ (B.length:Int) < (an:Int)+(sn:Int) by omega),qK,Int.toNat_natCast,Int.toNat_natCast]
  rw [vJ] at c0'
  rw [rL] at c5
  rw [qK] at c6
  rw [vV] at c11
  have kW:=ah (xv (a:=an) (b:=sn) (by omega) (by omega))
  have GA:1≤sn:=by omega
  by_cases jF:B.length < an+sn
  ·rw [if_pos jF] at oT
   have HO:=ah oT.symm
   have d1:decide ((B.length:Int) < (an:Int)+(sn:Int)) = true:=ae (by omega)
   have oV:=kW.out
   clear kW hu hB lC mM lW Aw EG DK BX rL rU hB8 vJ vV qU pC qK oT GA jF
   go_wp2_with fail
   refine (nB.out _ _).mono ?_
   rintro e W6 ⟨rfl,iZ⟩
   have pH:=ah (XB.stay kD.out iZ)
   have kR:=ah iZ
   clear iZ
   go_wp2_with (first|refine au (b:=b4) (y:=aq 2) (u:=zV) rfl _ _ rfl rfl rfl rfl pH.out ?_;intro W7 h7 jI)
   exact bodyPost_ret (v:=.tuple #[.agg (rsc (aq 2) zV),.nilFunc]) (bf (p:=4) (q:=5) rfl _ rfl h7) rfl (HR.out (aq 2) W7 none 0 0 ((kR.out.up [b4]).and_ jI) HO.out (RE.nil _ _ _ _ _) (fun _ h=>(bw h).elim))
  ·rw [if_neg jF] at oT
   have HO:=ah oT.symm
   have d1:decide ((B.length:Int) < (an:Int)+(sn:Int)) = false:=ac (by omega)
   obtain ⟨g,off,rfl⟩:=SE.addr lW.1 (show 0 < B.length by omega)
   have i0:(0:Int)≤(an:Int):=by omega
   have i1:(an:Int)≤(an:Int)+(sn:Int):=by omega
   have i2:(an:Int)+(sn:Int)≤(c6':Int):=by omega
   have i3:¬ (an:Int) = (c6':Int):=by omega
   have i4:¬ an = c6':=by omega
   have Cj:=ah (br_l (some ⟨g,off+an,none⟩) sn (c6' - an) ((B.drop an).take sn))
   have qP:=ah lW
   have jK:=ah jF
   have Ag:=ah (show ∀k∈own (.slice (some ⟨g,off+an,none⟩) sn (c6' - an)),O k∨w.heap.size≤k from fun k hk=>.inl (HH.out.2.1 k (.inr (.inr (.inr (.inr (.inr ⟨x.h,B,hB,by rw [← hu];exact hk⟩)))))))
   have EX:=ah rU
   have oV:=kW.out
   clear kW hu hB lC mM lW Aw EG DK BX rL rU hB8 vJ vV qU pC qK oT GA jF
   go_wp2_with (first|refine bx rfl _ rfl Cj.out ?_ ?_;(focus (simp [Act.eval];done))|refine au (b:=b4) (y:=⟨0,0,(B.drop an).take sn⟩) (u:=.slice (some ⟨g,off+an,none⟩) sn (c6' - an)) rfl _ _ rfl rfl rfl rfl kD.out ?_;intro W7 h7 jI)
   have n4:g≠b4:=fun e=>by
    obtain ⟨cur,uN⟩:=Sl.blk qP.out.1 (k:=g) (by rw [gh];exact List.mem_singleton.2 rfl)
    exact Blk.ne_ uN kD.out (by decide) e
   have jF:=jK.out
   have rU:=EX.out
   refine bodyPost_ret (v:=.tuple #[.agg (rsc ⟨0,0,(B.drop an).take sn⟩ (.slice (some ⟨g,off+an,none⟩) sn (c6' - an))),.nilFunc]) (bf (p:=4) (q:=5) rfl _ rfl h7) rfl (HR.out ⟨0,0,(B.drop an).take sn⟩ W7 _ _ _ jI HO.out ?_ (fun k hk=>Ag.out k hk))
   exact (RE.sub (SE.re qP.out.1) (by omega) (by omega)).chg jI (fun k hk h=>by rw [gh] at hk;simp at hk h;omega)
 ·obtain ⟨qU,vQ,hl2⟩:=BX AW
  obtain ⟨ln,Gq⟩:∃n:Nat,n = x.l.length:=⟨_,rfl⟩
  have As:∀(ts:Array TypeId) (ty:TypeId) (W:World),(Builtin.max_ ts ty #[.int .i64 0,.int .i64 (ln:Int)]).run Tryz.prog W = .ok (.int .i64 (ln:Int)) W:=fun ts ty W=>by
   rw [Ar.run_max]
   rw [show max 0 (ln:Int) = ln by omega]
  have oT:fh M x = if B.length < an+ln then (aq 2,none) else (aq 0,some { M with ob:=upd M.ob x.h (some (cj B an x.l)) }):=by
   have e:max x.s (x.l.length:Int) = ln:=by rw [qU,← Gq];exact Int.max_eq_right (by omega)
   have vJ:¬ x.k = 12:=by omega
   unfold fh
   rw [hB]
   show (if x.k = 11 then _ else if (B.length:Int) < x.a+max x.s x.l.length then _ else if x.k = 12 then _ else _) = _
   rw [if_neg mM,e,rL,if_neg vJ]
   by_cases h:B.length < an+ln
   ·rw [if_pos h,if_pos (show (B.length:Int) < (an:Int)+(ln:Int) by omega)]
   ·rw [if_neg h,if_neg (show ¬ (B.length:Int) < (an:Int)+(ln:Int) by omega),Int.toNat_natCast]
  rw [AW] at c0'
  rw [rL] at c5
  rw [qU] at c6
  rw [← Gq] at c11
  have kW:=ah (xv (a:=an) (b:=ln) (by omega) (by omega))
  by_cases jF:B.length < an+ln
  ·rw [if_pos jF] at oT
   have HO:=ah oT.symm
   have d1:decide ((B.length:Int) < (an:Int)+(ln:Int)) = true:=ae (by omega)
   have oV:=kW.out
   clear kW hu hB lC mM lW Aw EG DK BX rL rU hB8 AW qU vQ hl2 Gq oT jF
   go_wp2_with fail
   refine (nB.out _ _).mono ?_
   rintro e W6 ⟨rfl,iZ⟩
   have pH:=ah (XB.stay kD.out iZ)
   have kR:=ah iZ
   clear iZ
   go_wp2_with (first|refine au (b:=b4) (y:=aq 2) (u:=zV) rfl _ _ rfl rfl rfl rfl pH.out ?_;intro W7 h7 jI)
   exact bodyPost_ret (v:=.tuple #[.agg (rsc (aq 2) zV),.nilFunc]) (bf (p:=4) (q:=5) rfl _ rfl h7) rfl (HR.out (aq 2) W7 none 0 0 ((kR.out.up [b4]).and_ jI) HO.out (RE.nil _ _ _ _ _) (fun _ h=>(bw h).elim))
  ·rw [if_neg jF] at oT
   have HO:=ah oT
   have d1:decide ((B.length:Int) < (an:Int)+(ln:Int)) = false:=ac (by omega)
   obtain ⟨g,off,rfl⟩:=SE.addr lW.1 (show 0 < B.length by omega)
   have EY:=ah (fun (W:World) (w':World) (G:List Nat) (hG:Off w O X G) (hc:Chg [] w w') (hW:Chg G w' W) (k6:Blk W b6 38 #[.slice (some ⟨g,off,none⟩) B.length c6']) (k3:KB W b3 x (.slice A0 x.l.length c0))=>poke_do (HH.out.1.off HH.out.2.1 (hG.cp hc hW)) HH.out.2.1 (fun k hk=>Nat.lt_of_lt_of_le (HH.out.2.2 k hk) (hG.cp hc hW).size) hB hu.symm k6 k3 ((HV.out.1.stay hc).chg hW (fun k hk=>hG.out (lJ.out (fun h=>by rw [h] at vQ;simp at vQ) k hk))) rL vQ (by omega) HV.out.2)
   have DZ:=ah Gq
   have oV:=kW.out
   clear kW hu hB lC mM lW Aw EG DK BX rL rU hB8 AW qU vQ hl2 Gq oT jF
   go_wp2_with fail
   refine (nB.out _ _).mono ?_
   rintro e W6 ⟨rfl,iZ⟩
   have pH:=ah (XB.stay kD.out iZ)
   have kR:=ah iZ
   clear iZ
   go_wp2_with (first|refine au (b:=b4) (y:=aq 0) (u:=zV) rfl _ _ rfl rfl rfl rfl pH.out ?_;intro W7 h7 jI)
   have mA:Chg [b4] wc W7:=(kR.out.up [b4]).and_ jI
   have lF:Chg [] w W7:=(jU.out.stay kA.out).trans mA (fun y hy=>.inr (by obtain rfl:=aa hy;have:=HE.out;omega))
   have he:=HE.out
   refine bodyPost_ret (v:=.tuple #[.agg (rsc (aq 0) zV),.func (.func 94) #[] #[.pointer (some ⟨b6,0,none⟩),.pointer (some ⟨b3,0,none⟩)]]) (bf (p:=4) (q:=5) rfl _ rfl h7) rfl ⟨?_,lF⟩
   rw [HO.out]
   refine ⟨none,0,0,_,rfl,RE.nil _ _ _ _ _,(fun _ h=>(bw h).elim),_,_,rfl,oc Tryz.func94 (by kernel_rfl) (by kernel_rfl),fun G W hG hW=>(EY.out W W7 G hG lF hW ((H6.out.chg mA (by simp;exact Blk.ne_ H6.out kD.out (by decide))).chg hW (hG.new (ag jU.out.size HG6.out))) (show KB W b3 x (.slice A0 x.l.length c0) from Blk.chg (Blk.chg (jY.out wc kA.out) mA (by simp;omega)) hW (hG.new (by omega)))).mono ?_⟩
   rintro e W' ⟨rfl,k1,O',k2,k3⟩
   exact ⟨rfl,k1.or,O',k2,fun k hk=>(k3 k hk).imp id (fun h=>ag (ag lF.size hW.size) h)⟩
end Go.Proofs.YtfoleblcaloeoaaGreatDoor
