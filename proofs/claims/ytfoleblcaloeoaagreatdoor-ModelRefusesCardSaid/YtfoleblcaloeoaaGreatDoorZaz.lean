/- Texts merged for the claim. -/
import Derived.Test.YtfoleblcaloeoaaGreatDoorZay
set_option maxHeartbeats 40000000
set_option maxRecDepth 20000
namespace Go.Proofs.YtfoleblcaloeoaaGreatDoor
open Go Go.RowKit
theorem look_ev {w:World} {m:Nat} {M:Mo} {bp bo be:Nat} {fp fo fe:Int→Option Value} {gb:Int→Nat} {GF:Int→Nat→Prop} {ov:Int→Value} (h:MIn w m M bp bo be fp fo fe gb GF ov) (z:Int) :
  (Instr.lookup 60 (.map (some be)) (.int .u64 z) false).run Tryz.prog w = .ok (.bool (M.ev z)) w:=by
 cases hp:M.ev z with
 | false=>exact ej Tryz.underlying60 Tryz.underlying37 h.me (by rw [h.he,hp];rfl) (zero4 w) false
 | true=>exact dy Tryz.underlying60 Tryz.underlying37 h.me (by rw [h.he,hp];rfl) false
theorem Eff.of {w w':World} {m:Nat} {O:Nat→Prop} {X:List Nat} {k:FuncId} {caps:Array Value} {M':Mo}
  (he:Ent k) (h:∀F W,Off w O X F→Chg F w' W→Calls Tryz.prog k caps W fun e W'=>e = .returned (.tuple #[])∧CP (fun k=>O k∨w.heap.size≤k) W W'∧∃O',MMem W' m M' O'∧∀k,O' k→O k∨w.heap.size≤k):Eff w w' m O X (.func (.func k) #[] caps) (some M'):=⟨k,caps,rfl,he,h⟩
theorem xor_max {v:Nat} (h:v < 18446744073709551616):18446744073709551615 ^^^ v = 18446744073709551615 - v:=by
 refine Nat.eq_of_testBit_eq fun i=>?_
 have e1:=Nat.testBit_two_pow_sub_succ (n:=64) (x:=v) h i
 have e2:(2 ^ 64 - 1).testBit i = decide (i < 64):=Nat.testBit_two_pow_sub_one 64 i
 rw [show 2 ^ 64 - 1 = 18446744073709551615 by decide] at e2
 rw [Nat.testBit_xor,e2,show 18446744073709551615 - v = 2 ^ 64 - (v+1) by omega,e1]
 by_cases hi:i < 64
 ·simp [hi]
 ·have h2:v.testBit i = false:=Nat.testBit_lt_two_pow (Nat.lt_of_lt_of_le h (show 2 ^ 64≤2 ^ i from Nat.pow_le_pow_right (by decide) (by omega)))
  simp [hi,h2]
theorem gR {M:Mo} {x:Cl} (v:Nat) (h:x.k≠1∧x.k≠10∧x.k≠11∧x.k≠12∧x.k≠13∧x.k≠19∧x.k≠20∧x.k≠21) :
  bj M x v = match M.pr x.p with | none=>(aq 7,none) | some p=>cd M x v p:=by
 unfold bj
 rw [if_neg h.1,if_neg h.2.1,if_neg (by omega),if_neg (by omega)]
 cases M.pr x.p <;> rfl
theorem bF {p:Pr} {x:Cl} (hk:x.k = 8):(cx p x).2 = none:=by
 unfold cx
 simp only [hk,if_true]
 split
 ·rfl
 ·split <;> rfl
theorem shl8 {a b:Nat} (ha:a < 256) (hb:b < 256):(a * 256) ||| b = a * 256+b:=by
 have:=Nat.two_pow_add_eq_or_of_lt (i:=8) (b:=b) (by omega) a
 rw [show 2 ^ 8 = 256 by decide,Nat.mul_comm] at this
 exact this.symm
theorem dJ {w:World} {m:Nat} {M:Mo} {O:Nat→Prop} {X:List Nat} (h:MMem w m M O) {x:Cl} {v:Value} {r:Rs} {u:Value} (hx:x.Ok) (hv:RB w v x.l) (hX:x.l≠[]→∀k∈own v,k∈X) (hXl:∀k∈X,k < w.heap.size) (hw:ci M.c x = false) (EA:r.v < 18446744073709551616) :
  Calls Tryz.prog 32 #[.pointer (some ⟨m,0,none⟩),.agg (clc x v),.agg (rsc r u)] w fun e w'=>AnsR w w' m O X (bj M x r.v) e∧Chg [] w w':=by
 obtain ⟨A0,c0,rfl⟩:=RE.form hv
 obtain ⟨bp,bo,be,fp,fo,fe,gb,GF,ov,hI,hO,hl⟩:=h
 have HM:=ah (show MMem w m M O from ⟨bp,bo,be,fp,fo,fe,gb,GF,ov,hI,hO,hl⟩)
 have HI0:=ah hI
 obtain ⟨W2,jB⟩:∃W2,W2 = (((w.alloc (.cells #[.pointer (some ⟨m,0,none⟩)] 30)).alloc (.cells (clc x (.slice A0 x.l.length c0)) 47)).alloc (.cells (rsc r u) 40)).alloc (.cells (rsc zRs zV) 40):=⟨_,rfl⟩
 have jA:Chg [] w W2:=by rw [jB];exact ((((Chg.refl [] w).alloc _).alloc _).alloc _).alloc _
 have jS:Blk W2 w.heap.size 30 #[.pointer (some ⟨m,0,none⟩)]:=by rw [jB];exact (((Blk.new w _ _).alloc _).alloc _).alloc _
 have kQ:KB W2 (w.heap.size+1) x (.slice A0 x.l.length c0):=by
  have:=Blk.new (w.alloc (.cells #[.pointer (some ⟨m,0,none⟩)] 30)) 47 (clc x (.slice A0 x.l.length c0))
  rw [af] at this
  rw [jB]
  exact (this.alloc _).alloc _
 have qQ:XB W2 (w.heap.size+1+1) r u:=by
  have:=Blk.new ((w.alloc (.cells #[.pointer (some ⟨m,0,none⟩)] 30)).alloc (.cells (clc x (.slice A0 x.l.length c0)) 47)) 40 (rsc r u)
  rw [af,af] at this
  rw [jB]
  exact this.alloc _
 have kV:XB W2 (w.heap.size+1+1+1) zRs zV:=by
  have:=Blk.new (((w.alloc (.cells #[.pointer (some ⟨m,0,none⟩)] 30)).alloc (.cells (clc x (.slice A0 x.l.length c0)) 47)).alloc (.cells (rsc r u) 40)) 40 (rsc zRs zV)
  rw [af,af,af] at this
  rw [jB]
  exact this
 obtain ⟨b3,e3⟩:∃b,b = w.heap.size:=⟨_,rfl⟩
 obtain ⟨b4,e4⟩:∃b,b = w.heap.size+1:=⟨_,rfl⟩
 obtain ⟨b5,e5⟩:∃b,b = w.heap.size+1+1:=⟨_,rfl⟩
 obtain ⟨b6,e6⟩:∃b,b = w.heap.size+1+1+1:=⟨_,rfl⟩
 rw [← e6] at kV
 rw [← e5] at qQ
 rw [← e4] at kQ
 rw [← e3] at jS
 have HE:=ah (And.intro e3 (And.intro e4 (And.intro e5 e6)))
 have HI:=ah (fun W (h:Chg [] W2 W)=>hI.stay (jA.stay h))
 have jY:=ah (fun W (h:Chg [] W2 W)=>jS.chg h ab)
 have jW:=ah (fun W (h:Chg [] W2 W)=>KB.stay kQ h)
 have mX:=ah (fun W (h:Chg [] W2 W)=>XB.stay qQ h)
 have kH:=ah (fun W (h:Chg [] W2 W)=>XB.stay kV h)
 have jU:=ah jA
 have jP:=ah jB
 have HH:=ah (And.intro hO hl)
 have HV:=ah hv
 have HX:=ah hx
 have lJ:=ah (And.intro hX hXl)
 have mL:=ah hw
 have HRV:=ah EA
 have nB:=ah (fun e W=>kh e W)
 have sH:=ah (show b6 < W2.heap.size from kV.lt)
 have mI:=ah (show ¬ O b6∧b6∉X from ⟨fun h=>by have:=hl b6 h;omega,fun h=>by have:=hXl b6 h;omega⟩)
 have rT:=ah (fun (R:Rs × Option Mo) (Wc W':World) (e:Ending) (ZQy:Chg [] W2 Wc) (hA:AnsR Wc W' m O X R e)=>hA.put (w:=w) (b:=b6) (jA.stay ZQy).size (by omega) (Nat.lt_of_lt_of_le kV.lt ZQy.size) mI.out.1 mI.out.2)
 have HR:=ah (show ∀(W W7:World),Chg [] W2 W→Chg [b6] W W7→Chg [] w W7 from fun W W7 h1 h2=>(jA.stay h1).trans h2 (fun y hy=>.inr (by obtain rfl:=aa hy;omega)))
 obtain ⟨k1,k21⟩:=fX hw
 have DX:=ah (And.intro k1 k21)
 obtain ⟨c0',-,-,-,-,-,-,-,-,-,-,-,l4,-⟩:=KB.cells kQ
 have q3:W2.cell? ⟨b3,0,none⟩ = some (.pointer (some ⟨m,0,none⟩)):=by simpa using jS.cell 0
 have l3:=jS.lt
 obtain ⟨k0,oB⟩:∃z:Int,z = (x.k:Int):=⟨_,rfl⟩
 rw [← oB] at c0'
 have mN:=ah oB
 clear hI hO hl hv hx hX hXl hw EA jS kQ qQ kV jA jB e3 e4 e5 e6 k1 k21 oB
 go_enter Tryz.func32,Tryz.ntmps32
 go_upto_region 1 with (first|refine ax rfl _ rfl rfl ?_;try simp only [af]|refine em rfl _ rfl rfl ?_;try simp only [af]|refine bn rfl rfl ?_;try simp only [af];try rw [← jP.out])
 rw [← HE.out.2.2.2,← HE.out.2.2.1,← HE.out.2.1,← HE.out.1]
 by_cases h1:k0 = 1
 ·subst h1
  have hk:x.k = 1:=by have:=mN.out;omega
  have kZ:=ah (show bj M x r.v = iq M by unfold bj;rw [if_pos hk])
  clear hk
  go_wp2_with (first|refine ck rfl _ rfl rfl (jW.out W2 (Chg.refl [] W2)) ?_)
  refine (iU (X:=X) (HM.out.stay jU.out)).mono ?_
  rintro e W5 ⟨hA,U⟩
  obtain ⟨A,n,c,f,rfl,kS⟩:=rT.out _ _ _ _ (Chg.refl [] W2) hA
  have lR:=ah (kH.out W5 ((Chg.refl [] W2).stay U))
  have jL:=ah ((Chg.refl [] W2).stay U)
  have mG:=ah kS
  clear hA U kS
  generalize kB:iq M = RR at *
  go_wp2_with (first|refine au (b:=b6) (y:=RR.1) (u:=.slice A n c) rfl _ _ rfl rfl rfl rfl lR.out ?_;intro W7 h7 jI)
  refine bodyPost_ret (v:=.tuple #[.agg (rsc RR.1 (.slice A n c)),f]) (bf (p:=6) (q:=7) rfl _ rfl h7) rfl ⟨?_,HR.out W5 W7 jL.out jI⟩
  rw [kZ.out]
  exact mG.out W7 jI
 by_cases kK:k0 = 10
 ·subst kK
  have hk:x.k = 10:=by have:=mN.out;omega
  have hs:=zc mL.out hk
  obtain ⟨n,hn⟩:∃n:Nat,x.s = n:=⟨x.s.toNat,by omega⟩
  have kZ:=ah (show bj M x r.v = ja M x.s r.v by unfold bj;rw [if_neg (by omega),if_pos hk])
  have HN:=ah (And.intro hn (show n≤128 by omega))
  clear hk hs hn
  have rF:=look_ev (HI.out W2.drew (Chg.refl [] W2).drew) r.v
  obtain ⟨-,p1,-,l5,-⟩:=XB.cells (mX.out W2 (Chg.refl _ _))
  obtain ⟨-,-,qe,qm,-⟩:=cc (HI.out W2 (Chg.refl _ _)).blk
  obtain ⟨rv,zJ⟩:∃z:Int,z = (r.v:Int):=⟨_,rfl⟩
  rw [← zJ] at rF p1
  obtain ⟨ev,Am⟩:∃b,b = M.ev rv:=⟨_,rfl⟩
  rw [← Am] at rF
  have jC:=ah (And.intro zJ Am)
  have HD:=ah (show (r.v = 0∨M.ev r.v = true)→((⟨0,18446744073709551615 - r.v,[]⟩,none):Rs × Option Mo) = ja M x.s r.v from fun h=>by unfold ja;rw [if_pos h])
  obtain ⟨yv,hyv⟩:∃y:Nat,y = 18446744073709551615 - r.v:=⟨_,rfl⟩
  rw [← hyv] at HD
  have GK:bits .xor .u64 IntKind.u64.max rv = (yv:Int):=by
   rw [show IntKind.u64.max = ((18446744073709551615:Nat):Int) from rfl,zJ,u64_xor_nat _ _ (by decide) HRV.out,xor_max HRV.out,hyv]
  have HBY:=ah (br_v yv)
  have Cm:=ah (show BR [(1,.int .u64 rv)] ⟨0,r.v,[]⟩ zV by rw [zJ];exact br_v _)
  have CJ:=ah (kH.out W2.drew (Chg.refl [] W2).drew)
  clear zJ Am hyv
  by_cases hz:rv = 0
  ·have d0:(rv == 0) = true:=by rw [hz];rfl
   have HDD:=ah (HD.out (.inl (by have:=jC.out.1;omega)))
   clear HD hz
   go_upto_region 5 with (fail)
   refine rgt [0,1,0,0,1,0,0,1,0,1,3,0] [none,none,none,none,some (23,false),some (23,false),some (23,false),some (23,false),some (23,false),some (23,false),some (23,false),none] (fun _=>True) ?_
   go_wp2_with (first|refine bx rfl _ rfl HBY.out ?_ ?_;(focus (simp [Act.eval,show IntKind.u64.signed = false from rfl,GK];done))|refine au (b:=b6) (y:=⟨0,yv,[]⟩) (u:=zV) rfl _ _ rfl rfl rfl rfl CJ.out ?_;intro W7 h7 jI|refine av fun K I=>?_|refine ay ?_ ?_;(focus (simp [bb];done));go_simp|refine bh ?_ ?_;(focus (simp [bb];done))|refine ai fun K I=>?_;go_simp;refine I _ _ ?_;clear I K|refine ao fun K I=>?_;go_simp|refine aj ?_)
   refine bodyPost_ret (v:=.tuple #[.agg (rsc ⟨0,yv,[]⟩ zV),.nilFunc]) (bf (p:=6) (q:=7) rfl _ rfl h7) rfl ⟨?_,HR.out W2.drew W7 (Chg.refl [] W2).drew jI⟩
   rw [kZ.out,← HDD.out]
   exact AnsR.plain rfl
  ·have d0:(rv == 0) = false:=beq_false_of_ne hz
   cases ev with
   | true =>
    have HDD:=ah (HD.out (.inr (by rw [← jC.out.1];exact jC.out.2.symm)))
    clear HD
    go_upto_region 5 with (fail)
    refine rgt [0,1,0,0,1,0,0,1,0,1,3,0] [none,none,none,none,some (23,false),some (23,false),some (23,false),some (23,false),some (23,false),some (23,false),some (23,false),none] (fun _=>True) ?_
    go_wp2_with (first|refine bx rfl _ rfl HBY.out ?_ ?_;(focus (simp [Act.eval,show IntKind.u64.signed = false from rfl,GK];done))|refine au (b:=b6) (y:=⟨0,yv,[]⟩) (u:=zV) rfl _ _ rfl rfl rfl rfl CJ.out ?_;intro W7 h7 jI|refine av fun K I=>?_|refine ay ?_ ?_;(focus (simp [bb];done));go_simp|refine bh ?_ ?_;(focus (simp [bb];done))|refine ai fun K I=>?_;go_simp;refine I _ _ ?_;clear I K|refine ao fun K I=>?_;go_simp|refine aj ?_)
    refine bodyPost_ret (v:=.tuple #[.agg (rsc ⟨0,yv,[]⟩ zV),.nilFunc]) (bf (p:=6) (q:=7) rfl _ rfl h7) rfl ⟨?_,HR.out W2.drew W7 (Chg.refl [] W2).drew jI⟩
    rw [kZ.out,← HDD.out]
    exact AnsR.plain rfl
   | false =>
    have rJ:=ah (show ja M x.s r.v = (⟨0,r.v,[]⟩,some { M with ob:=upd M.ob r.v (some (List.replicate n 0)),ev:=upd M.ev r.v true }) by
     unfold ja
     rw [if_neg (by rintro (h | h);exact hz (by have:=jC.out.1;omega);rw [← jC.out.1,← jC.out.2] at h;cases h),HN.out.1,Int.toNat_natCast])
    clear HD
    go_upto_region 5 with (fail)
    refine rgt [0,1,0,0,1,0,0,1,0,1,3,0] [none,none,none,none,some (23,false),some (23,false),some (23,false),some (23,false),some (23,false),some (23,false),some (23,false),none] (fun _=>True) ?_
    go_wp2_with (first|refine bx rfl _ rfl Cm.out ?_ ?_;(focus (simp [Act.eval];done))|refine au (b:=b6) (y:=⟨0,r.v,[]⟩) (u:=zV) rfl _ _ rfl rfl rfl rfl CJ.out ?_;intro W7 h7 jI|refine av fun K I=>?_|refine ay ?_ ?_;(focus (simp [bb];done));go_simp|refine bh ?_ ?_;(focus (simp [bb];done))|refine ai fun K I=>?_;go_simp;refine I _ _ ?_;clear I K|refine ao fun K I=>?_;go_simp|refine aj ?_)
    have lF:=HR.out W2.drew W7 (Chg.refl [] W2).drew jI
    have he:=HE.out
    refine bodyPost_ret (v:=.tuple #[.agg (rsc ⟨0,r.v,[]⟩ zV),.func (.func 64) #[] #[.pointer (some ⟨b4,0,none⟩),.pointer (some ⟨b3,0,none⟩),.pointer (some ⟨b5,0,none⟩)]]) (bf (p:=6) (q:=7) rfl _ rfl h7) rfl ⟨?_,lF⟩
    rw [kZ.out,rJ.out]
    refine ⟨none,0,0,_,rfl,RE.nil _ _ _ _ _,(fun _ h=>(bw h).elim),Eff.of (oc Tryz.func64 (by kernel_rfl) (by kernel_rfl)) fun F W hF hW=>?_⟩
    have m4:KB W b4 x (.slice A0 x.l.length c0):=Blk.chg (Blk.chg (jW.out W2.drew (Chg.refl [] W2).drew) jI (by simp;omega)) hW (hF.new (by omega))
    have m5:XB W b5 r u:=Blk.chg (Blk.chg (mX.out W2.drew (Chg.refl [] W2).drew) jI (by simp;omega)) hW (hF.new (by omega))
    have m3:=((jY.out W2.drew (Chg.refl [] W2).drew).chg jI (by simp;omega)).chg hW (hF.new (by omega))
    refine (iE (HM.out.off (hF.cp lF hW)) m4 m3 m5 HN.out.1 HN.out.2).mono ?_
    rintro e W' ⟨rfl,k1,O',k2,k3⟩
    exact ⟨rfl,k1.or,O',k2,fun k hk=>(k3 k hk).imp id (ag (ag lF.size hW.size))⟩
 by_cases mM:k0 = 11
 ·subst mM
  have hk:x.k = 11:=by have:=mN.out;omega
  have kZ:=ah (show bj M x r.v = fh M x by unfold bj;rw [if_neg (by omega),if_neg (by omega),if_pos (by omega)])
  have AJ:=ah (show x.k≠11→0≤x.a∧x.a≤128∧(x.k = 12→x.l = []∧1≤x.s∧x.s≤128)∧(x.k = 13→x.s = 0∧1≤x.l.length∧x.l.length≤128) from fun mM=>absurd hk mM)
  have Ff:=ah (show x.k = 11∨x.k = 12∨x.k = 13 by omega)
  clear hk
  go_wp2_with (first|refine ck rfl _ rfl rfl (jW.out W2 (Chg.refl [] W2)) ?_)
  refine (sk (X:=X) (HI.out W2 (Chg.refl [] W2)) HH.out.1 (fun k hk=>Nat.lt_of_lt_of_le (HH.out.2 k hk) jU.out.size) (HV.out.stay jU.out) lJ.out.1 HX.out.l Ff.out AJ.out).mono ?_
  rintro e W5 ⟨hA,U⟩
  obtain ⟨A,n,c,f,rfl,kS⟩:=rT.out _ _ _ _ (Chg.refl [] W2) hA
  have lR:=ah (kH.out W5 ((Chg.refl [] W2).stay U))
  have jL:=ah ((Chg.refl [] W2).stay U)
  have mG:=ah kS
  clear hA U kS
  generalize kB:fh M x = RR at *
  go_wp2_with (first|refine au (b:=b6) (y:=RR.1) (u:=.slice A n c) rfl _ _ rfl rfl rfl rfl lR.out ?_;intro W7 h7 jI)
  refine bodyPost_ret (v:=.tuple #[.agg (rsc RR.1 (.slice A n c)),f]) (bf (p:=6) (q:=7) rfl _ rfl h7) rfl ⟨?_,HR.out W5 W7 jL.out jI⟩
  rw [kZ.out]
  exact mG.out W7 jI
 by_cases vJ:k0 = 12
 ·subst vJ
  have hk:x.k = 12:=by have:=mN.out;omega
  have kZ:=ah (show bj M x r.v = fh M x by unfold bj;rw [if_neg (by omega),if_neg (by omega),if_pos (by omega)])
  have AJ:=ah (show x.k≠11→0≤x.a∧x.a≤128∧(x.k = 12→x.l = []∧1≤x.s∧x.s≤128)∧(x.k = 13→x.s = 0∧1≤x.l.length∧x.l.length≤128) from fun mM=>by
   obtain ⟨a1,a2,a3,a4,a5⟩:=fZ mL.out hk
   exact ⟨a1,a2,fun _=>⟨a3,a4,a5⟩,fun h=>by omega⟩)
  have Ff:=ah (show x.k = 11∨x.k = 12∨x.k = 13 by omega)
  clear hk
  go_wp2_with (first|refine ck rfl _ rfl rfl (jW.out W2 (Chg.refl [] W2)) ?_)
  refine (sk (X:=X) (HI.out W2 (Chg.refl [] W2)) HH.out.1 (fun k hk=>Nat.lt_of_lt_of_le (HH.out.2 k hk) jU.out.size) (HV.out.stay jU.out) lJ.out.1 HX.out.l Ff.out AJ.out).mono ?_
  rintro e W5 ⟨hA,U⟩
  obtain ⟨A,n,c,f,rfl,kS⟩:=rT.out _ _ _ _ (Chg.refl [] W2) hA
  have lR:=ah (kH.out W5 ((Chg.refl [] W2).stay U))
  have jL:=ah ((Chg.refl [] W2).stay U)
  have mG:=ah kS
  clear hA U kS
  generalize kB:fh M x = RR at *
  go_wp2_with (first|refine au (b:=b6) (y:=RR.1) (u:=.slice A n c) rfl _ _ rfl rfl rfl rfl lR.out ?_;intro W7 h7 jI)
  refine bodyPost_ret (v:=.tuple #[.agg (rsc RR.1 (.slice A n c)),f]) (bf (p:=6) (q:=7) rfl _ rfl h7) rfl ⟨?_,HR.out W5 W7 jL.out jI⟩
  rw [kZ.out]
  exact mG.out W7 jI
 by_cases AW:k0 = 13
 ·subst AW
  have hk:x.k = 13:=by have:=mN.out;omega
  have kZ:=ah (show bj M x r.v = fh M x by unfold bj;rw [if_neg (by omega),if_neg (by omega),if_pos (by omega)])
  have AJ:=ah (show x.k≠11→0≤x.a∧x.a≤128∧(x.k = 12→x.l = []∧1≤x.s∧x.s≤128)∧(x.k = 13→x.s = 0∧1≤x.l.length∧x.l.length≤128) from fun mM=>by
   obtain ⟨a1,a2,a3,a4,a5⟩:=aE mL.out hk
   exact ⟨a1,a2,fun h=>by omega,fun _=>⟨a3,a4,a5⟩⟩)
  have Ff:=ah (show x.k = 11∨x.k = 12∨x.k = 13 by omega)
  clear hk
  go_wp2_with (first|refine ck rfl _ rfl rfl (jW.out W2 (Chg.refl [] W2)) ?_)
  refine (sk (X:=X) (HI.out W2 (Chg.refl [] W2)) HH.out.1 (fun k hk=>Nat.lt_of_lt_of_le (HH.out.2 k hk) jU.out.size) (HV.out.stay jU.out) lJ.out.1 HX.out.l Ff.out AJ.out).mono ?_
  rintro e W5 ⟨hA,U⟩
  obtain ⟨A,n,c,f,rfl,kS⟩:=rT.out _ _ _ _ (Chg.refl [] W2) hA
  have lR:=ah (kH.out W5 ((Chg.refl [] W2).stay U))
  have jL:=ah ((Chg.refl [] W2).stay U)
  have mG:=ah kS
  clear hA U kS
  generalize kB:fh M x = RR at *
  go_wp2_with (first|refine au (b:=b6) (y:=RR.1) (u:=.slice A n c) rfl _ _ rfl rfl rfl rfl lR.out ?_;intro W7 h7 jI)
  refine bodyPost_ret (v:=.tuple #[.agg (rsc RR.1 (.slice A n c)),f]) (bf (p:=6) (q:=7) rfl _ rfl h7) rfl ⟨?_,HR.out W5 W7 jL.out jI⟩
  rw [kZ.out]
  exact mG.out W7 jI
 by_cases h19:k0 = 19
 ·subst h19
  have hk:x.k = 19:=by have:=mN.out;omega
  have kZ:=ah (show bj M x r.v = (aq 0,none) by unfold bj;rw [if_neg (by omega),if_neg (by omega),if_neg (by omega),if_pos (by omega)])
  clear hk
  go_wp2_with fail
  refine (nB.out _ _).mono ?_
  rintro e W5 ⟨rfl,U⟩
  have lR:=ah (kH.out W5 ((Chg.refl [] W2).stay U))
  have jL:=ah ((Chg.refl [] W2).stay U)
  clear U
  go_wp2_with (first|refine au (b:=b6) (y:=aq 0) (u:=zV) rfl _ _ rfl rfl rfl rfl lR.out ?_;intro W7 h7 jI)
  refine bodyPost_ret (v:=.tuple #[.agg (rsc (aq 0) zV),.nilFunc]) (bf (p:=6) (q:=7) rfl _ rfl h7) rfl ⟨?_,HR.out W5 W7 jL.out jI⟩
  rw [kZ.out]
  exact AnsR.plain rfl
 by_cases h20:k0 = 20
 ·subst h20
  have hk:x.k = 20:=by have:=mN.out;omega
  have kZ:=ah (show bj M x r.v = (aq 0,none) by unfold bj;rw [if_neg (by omega),if_neg (by omega),if_neg (by omega),if_pos (by omega)])
  clear hk
  go_wp2_with fail
  refine (nB.out _ _).mono ?_
  rintro e W5 ⟨rfl,U⟩
  have lR:=ah (kH.out W5 ((Chg.refl [] W2).stay U))
  have jL:=ah ((Chg.refl [] W2).stay U)
  clear U
  go_wp2_with (first|refine au (b:=b6) (y:=aq 0) (u:=zV) rfl _ _ rfl rfl rfl rfl lR.out ?_;intro W7 h7 jI)
  refine bodyPost_ret (v:=.tuple #[.agg (rsc (aq 0) zV),.nilFunc]) (bf (p:=6) (q:=7) rfl _ rfl h7) rfl ⟨?_,HR.out W5 W7 jL.out jI⟩
  rw [kZ.out]
  exact AnsR.plain rfl
 by_cases h21:k0 = 21
 ·subst h21
  have hk:x.k = 21:=by have:=mN.out;omega
  have kZ:=ah (show bj M x r.v = (aq 0,none) by unfold bj;rw [if_neg (by omega),if_neg (by omega),if_neg (by omega),if_pos (by omega)])
  clear hk
  go_wp2_with fail
  refine (nB.out _ _).mono ?_
  rintro e W5 ⟨rfl,U⟩
  have lR:=ah (kH.out W5 ((Chg.refl [] W2).stay U))
  have jL:=ah ((Chg.refl [] W2).stay U)
  clear U
  go_wp2_with (first|refine au (b:=b6) (y:=aq 0) (u:=zV) rfl _ _ rfl rfl rfl rfl lR.out ?_;intro W7 h7 jI)
  refine bodyPost_ret (v:=.tuple #[.agg (rsc (aq 0) zV),.nilFunc]) (bf (p:=6) (q:=7) rfl _ rfl h7) rfl ⟨?_,HR.out W5 W7 jL.out jI⟩
  rw [kZ.out]
  exact AnsR.plain rfl
 have f1:(k0 == 1) = false:=beq_false_of_ne h1
 have f10:(k0 == 10) = false:=beq_false_of_ne kK
 have f11:(k0 == 11) = false:=beq_false_of_ne mM
 have f12:(k0 == 12) = false:=beq_false_of_ne vJ
 have f13:(k0 == 13) = false:=beq_false_of_ne AW
 have f19:(k0 == 19) = false:=beq_false_of_ne h19
 have f20:(k0 == 20) = false:=beq_false_of_ne h20
 have f21:(k0 == 21) = false:=beq_false_of_ne h21
 have HF:=ah (And.intro h1 (And.intro kK (And.intro mM (And.intro vJ (And.intro AW (And.intro h19 (And.intro h20 h21)))))))
 clear h1 kK mM vJ AW h19 h20 h21
 have HPR:=ah (gR (M:=M) (x:=x) r.v (by have:=HF.out;have:=mN.out;omega))
 obtain ⟨pv,zH⟩:∃pv:Option Addr,(∃p,M.pr x.p = some p∧pv = some ⟨gb x.p,0,none⟩)∨(M.pr x.p = none∧pv = none):=by
  cases h:M.pr x.p with
  | some p=>exact ⟨_,.inl ⟨p,rfl,rfl⟩⟩
  | none=>exact ⟨_,.inr ⟨rfl,rfl⟩⟩
 have rA:=ah (show ∀W,Chg [] W2 W→(Instr.lookup 58 (.map (some bp)) (.int .i64 x.p) false).run Tryz.prog W = .ok (.pointer pv) W from fun W h=>by
  have:=sz (HI.out W h) x.p
  rcases zH with ⟨p,hp,rfl⟩ | ⟨hp,rfl⟩
  ·rw [hp] at this;exact this
  ·rw [hp] at this;exact this)
 have oE:=ah zH
 clear zH
 go_upto_region 16 with (fail)
 go_cut [8] from 54 to 60 (fun z8 W=>∃b8,z8 = .pointer (some ⟨b8,0,none⟩)∧Blk W b8 103 #[.pointer pv]∧Chg [] W2 W∧W2.heap.size≤b8)
 case first =>
  clear c0' l4 q3 l3
  refine rgt [5,0,0,5,0,5,5,6,3] [none,none,none,none,none,none,none,none,none] (fun W=>Chg [] W2 W) ?_
  have hS:Chg [] W2 W2.drew:=(Chg.refl [] W2).drew
  generalize W2.drew = W0 at hS ⊢
  go_wp2_with (first|refine al 30 _ rfl rfl (fun w' J=>dk Tryz.underlying30 (by simpa using (jY.out w' J).cell 0)) hS ?_|refine al 58 _ rfl rfl (fun w' J=>ca Tryz.underlying58 (cc (HI.out w' J).blk).1) hS ?_|refine al 3 _ rfl rfl (fun w' J=>cr Tryz.underlying3 (KB.cells (jW.out w' J)).2.1) hS ?_|refine ly 58 _ _ false rfl rfl rfl (fun w' J=>rA.out w' J) hS ?_|refine av fun K I=>?_|refine ai fun K I=>?_;go_simp;refine I _ _ ?_;clear I K|refine ao fun K I=>?_;go_simp|refine aj ?_)
  (refine aw hS fun K I=>?_)
  go_simp
  refine I _ _ (hS.alloc _) ?_
  clear I K
  go_wp2_with (first|refine av fun K I=>?_|refine ai fun K I=>?_;go_simp;refine I _ _ ?_;clear I K|refine ao fun K I=>?_;go_simp|refine aj ?_)
  go_meet
  case rel=>exact ⟨_,rfl,Blk.new W0 _ _,hS.alloc _,hS.size⟩
 obtain ⟨b8,rfl,h8,lC,wM⟩:=hcut
 have H8:=ah h8
 have kA:=ah lC
 have AF:=ah wM
 have vY:=ah (fun W (h:Chg [] wc W)=>h8.chg h ab)
 clear c0' l4 q3 l3 f1 f10 f11 f12 f13 f19 f20 f21
 obtain ⟨c0',-,-,-,-,-,-,-,-,-,-,-,l4,-⟩:=KB.cells (jW.out wc lC)
 rw [← mN.out] at c0'
 have q3:wc.cell? ⟨b3,0,none⟩ = some (.pointer (some ⟨m,0,none⟩)):=by simpa using (jY.out wc lC).cell 0
 have l3:=(jY.out wc lC).lt
 have q8:wc.cell? ⟨b8,0,none⟩ = some (.pointer pv):=by simpa using h8.cell 0
 have l8:=h8.lt
 clear h8 lC wM rA
 rcases oE.out with ⟨p,hp,rfl⟩ | ⟨hp,rfl⟩
 case inr =>
  have kZ:=ah (show bj M x r.v = (aq 7,none) by rw [HPR.out,hp])
  clear hp
  go_wp2_with fail
  refine (nB.out _ _).mono ?_
  rintro e W5 ⟨rfl,U⟩
  have lR:=ah (kH.out W5 (kA.out.stay U))
  have jL:=ah (kA.out.stay U)
  clear U
  go_wp2_with (first|refine au (b:=b6) (y:=aq 7) (u:=zV) rfl _ _ rfl rfl rfl rfl lR.out ?_;intro W7 h7 jI)
  refine bodyPost_ret (v:=.tuple #[.agg (rsc (aq 7) zV),.nilFunc]) (bf (p:=6) (q:=7) rfl _ rfl h7) rfl ⟨?_,HR.out W5 W7 jL.out jI⟩
  rw [kZ.out]
  exact AnsR.plain rfl
 have oO:=ah (show bj M x r.v = cd M x r.v p by rw [HPR.out,hp])
 have HP:=ah hp
 clear hp
 have HIW:=ah (fun W (h:CP (fun k=>¬ O k) w W)=>HI0.out.off HH.out.1 h)
 have hkk:k0 = 2∨k0 = 14∨k0 = 16∨k0 = 3∨k0 = 4∨k0 = 5∨k0 = 8∨k0 = 9∨k0 = 6∨k0 = 7∨k0 = 15∨k0 = 17∨k0 = 18:=by
  have:=HF.out
  have:=DX.out
  have:=mN.out
  omega
 rcases hkk with rfl | rfl | rfl | rfl | rfl | rfl | rfl | rfl | rfl | rfl | rfl | rfl | rfl
 ·have hk:x.k = 2:=by have:=mN.out;omega
  have kZ:=ah (show bj M x r.v = (aq 0,some { M with pr:=upd M.pr x.p none }) by rw [oO.out];unfold cd;rw [if_pos hk])
  clear hk
  go_wp2_with fail
  refine (nB.out _ _).mono ?_
  rintro e W5 ⟨rfl,U⟩
  have lR:=ah (kH.out W5 (kA.out.stay U))
  have jL:=ah (kA.out.stay U)
  have nW:=ah U
  clear U
  go_wp2_with (first|refine au (b:=b6) (y:=aq 0) (u:=zV) rfl _ _ rfl rfl rfl rfl lR.out ?_;intro W7 h7 jI)
  have lF:=HR.out W5 W7 jL.out jI
  have he:=HE.out
  have hg:=AF.out
  have oH:=jU.out.size
  have lY:=sH.out
  refine bodyPost_ret (v:=.tuple #[.agg (rsc (aq 0) zV),.func (.func 66) #[] #[.pointer (some ⟨b3,0,none⟩),.pointer (some ⟨b4,0,none⟩)]]) (bf (p:=6) (q:=7) rfl _ rfl h7) rfl ⟨?_,lF⟩
  rw [kZ.out]
  refine ⟨none,0,0,_,rfl,RE.nil _ _ _ _ _,(fun _ h=>(bw h).elim),Eff.of (oc Tryz.func66 (by kernel_rfl) (by kernel_rfl)) fun F W hF hW=>?_⟩
  have m3:=((jY.out W5 jL.out).chg jI (by simp;omega)).chg hW (hF.new (by omega))
  have m4:KB W b4 x (.slice A0 x.l.length c0):=Blk.chg (Blk.chg (jW.out W5 jL.out) jI (by simp;omega)) hW (hF.new (by omega))
  refine (exit_do (HM.out.off (hF.cp lF hW)) m3 m4).mono ?_
  rintro e W' ⟨rfl,k1,O',k2,k3⟩
  exact ⟨rfl,k1.or,O',k2,fun k hk=>(k3 k hk).imp id (ag (ag lF.size hW.size))⟩
 ·have hk:x.k = 14:=by have:=mN.out;omega
  have kZ:=ah (show bj M x r.v = (aq 0,some { M with pr:=upd M.pr x.p (some { p with pk:=x.ok,pm:=x.om }) }) by rw [oO.out];unfold cd;rw [if_neg (show x.k≠2 by omega),if_pos hk])
  clear hk
  go_wp2_with fail
  refine (nB.out _ _).mono ?_
  rintro e W5 ⟨rfl,U⟩
  have lR:=ah (kH.out W5 (kA.out.stay U))
  have jL:=ah (kA.out.stay U)
  have nW:=ah U
  clear U
  go_wp2_with (first|refine au (b:=b6) (y:=aq 0) (u:=zV) rfl _ _ rfl rfl rfl rfl lR.out ?_;intro W7 h7 jI)
  have lF:=HR.out W5 W7 jL.out jI
  have he:=HE.out
  have hg:=AF.out
  have oH:=jU.out.size
  have lY:=sH.out
  refine bodyPost_ret (v:=.tuple #[.agg (rsc (aq 0) zV),.func (.func 67) #[] #[.pointer (some ⟨b4,0,none⟩),.pointer (some ⟨b8,0,none⟩)]]) (bf (p:=6) (q:=7) rfl _ rfl h7) rfl ⟨?_,lF⟩
  rw [kZ.out]
  refine ⟨none,0,0,_,rfl,RE.nil _ _ _ _ _,(fun _ h=>(bw h).elim),Eff.of (oc Tryz.func67 (by kernel_rfl) (by kernel_rfl)) fun F W hF hW=>?_⟩
  have m4:KB W b4 x (.slice A0 x.l.length c0):=Blk.chg (Blk.chg (jW.out W5 jL.out) jI (by simp;omega)) hW (hF.new (by omega))
  have m8:=((vY.out W5 nW.out).chg jI (by simp;omega)).chg hW (hF.new (by omega))
  refine (iS (HIW.out W (hF.cp lF hW)) HH.out.1 (fun k hk=>Nat.lt_of_lt_of_le (HH.out.2 k hk) (hF.cp lF hW).size) HP.out m4 m8 ⟨HX.out.ok,HX.out.om⟩).mono ?_
  rintro e W' ⟨rfl,k1,O',k2,k3⟩
  exact ⟨rfl,k1.or,O',k2,fun k hk=>.inl (k3 k hk)⟩
 ·have hk:x.k = 16:=by have:=mN.out;omega
  have kZ:=ah (show bj M x r.v = (⟨0,(ky p x.g).1 * 256+(ky p x.g).2,[]⟩,none) by rw [oO.out];unfold cd;rw [if_neg (show x.k≠2 by omega),if_neg (show x.k≠14 by omega),if_pos hk])
  clear hk
  obtain ⟨-,-,-,c3,-,-,-,-,-,-,-,-,-,-⟩:=KB.cells (jW.out wc kA.out)
  obtain ⟨d,FA,qp,qo,gp',go',gp,hP,-,-⟩:=(HI.out wc kA.out).pr x.p p HP.out
  have tB:=ah (show (ky p x.g).1 < 256∧(ky p x.g).2 < 256 by
   unfold ky
   cases h:p.ow x.g with
   | none=>exact ⟨hP.pk,hP.pm⟩
   | some q=>exact hP.ow _ _ h)
  have sF:=ah (of_pr hP x.g)
  clear hP
  generalize hyy:ky p x.g = yy at *
  obtain ⟨yk,ym⟩:=yy
  simp only at kZ tB sF
  go_wp2_with fail
  refine sF.out.mono ?_
  rintro e W5 ⟨rfl,U⟩
  have lR:=ah (kH.out W5 (kA.out.stay U))
  have jL:=ah (kA.out.stay U)
  clear U c0' l4 q3 l3 q8 l8 c3
  obtain ⟨zv,hzv⟩:∃z:Nat,z = yk * 256+ym:=⟨_,rfl⟩
  rw [← hzv] at kZ
  have w1:IntKind.u64.wrap (yk:Int) = (yk:Int):=by rw [IntKind.wrap_u64];have:=tB.out;omega
  have w2:IntKind.u64.wrap ((yk:Int) * 256) = (yk:Int) * 256:=by rw [IntKind.wrap_u64];have:=tB.out;omega
  have w3:IntKind.u64.wrap (ym:Int) = (ym:Int):=by rw [IntKind.wrap_u64];have:=tB.out;omega
  have hor:bits .or .u64 ((yk:Int) * 256) (ym:Int) = (zv:Int):=by
   have h1:=tB.out.1
   have h2:=tB.out.2
   rw [show (yk:Int) * 256 = ((yk * 256:Nat):Int) by simp,u64_or_nat _ _ (Nat.lt_of_lt_of_le (Nat.mul_lt_mul_of_pos_right h1 (by decide)) (by decide)) (Nat.lt_trans h2 (by decide)),shl8 h1 h2,hzv]
  have Cm:=ah (br_v zv)
  clear hzv
  go_wp2_with (first|refine jw rfl rfl ?_;intro W6 h6 iZ;have H6:=ah h6;have oK:=ah iZ;have pH:=ah (XB.stay lR.out iZ);have kP:=ah (show W5.heap.size≠b6 by have:=lR.out.lt;omega);clear h6 iZ|refine iw (b:=W5.heap.size) (k':=(yk:Int)) (m':=(ym:Int)) rfl _ _ rfl rfl rfl H6.out ?_;intro W8 h9 kE;have yF:=ah (show XB W8 b6 zRs zV from Blk.chg pH.out kE (by simp;exact fun e=>kP.out e.symm));have mB:=ah (show Chg [] W2 W8 from jL.out.trans ((oK.out.up [W5.heap.size]).and_ kE) (fun y hy=>.inr (by obtain rfl:=aa hy;exact jL.out.size)));have r0:W8.cell? ⟨W5.heap.size,0,none⟩ = some (.int .u8 yk):=(by simpa using h9.cell 0);have r1:W8.cell? ⟨W5.heap.size,1,none⟩ = some (.int .u8 ym):=(by simpa using h9.cell 1);have lr:=h9.lt;clear h9 kE|refine bx rfl _ rfl Cm.out ?_ ?_;(focus (simp [Act.eval,w1,w2,w3,hor];done))|refine au (b:=b6) (y:=⟨0,zv,[]⟩) (u:=zV) rfl _ _ rfl rfl rfl rfl yF.out ?_;intro W7 h7 jI)
  refine bodyPost_ret (v:=.tuple #[.agg (rsc ⟨0,zv,[]⟩ zV),.nilFunc]) (bf (p:=6) (q:=7) rfl _ rfl h7) rfl ⟨?_,HR.out W8 W7 mB.out jI⟩
  rw [kZ.out]
  exact AnsR.plain rfl
 ·have hk:x.k = 3:=by have:=mN.out;omega
  have kZ:=ah (show bj M x r.v = (aq (ch p x).1,some { M with pr:=upd M.pr x.p (some (ch p x).2) }) by rw [oO.out];unfold cd;rw [if_neg (show x.k≠2 by omega),if_neg (show x.k≠14 by omega),if_neg (show x.k≠16 by omega),if_pos (show x.k = 3∨x.k = 4∨x.k = 5 by omega)])
  have pT:=ah (qj mL.out (by rw [fk hk];rfl))
  have Fe:=ah (show x.k = 3∨x.k = 4∨x.k = 5 by omega)
  clear hk
  go_wp2_with (first|refine ck rfl _ rfl rfl (jW.out wc kA.out) ?_)
  refine (sf (X:=X) (HI.out wc kA.out) HH.out.1 (fun k hk=>Nat.lt_of_lt_of_le (HH.out.2 k hk) (jU.out.stay kA.out).size) HP.out rfl Fe.out (fun _=>by have:=pT.out;omega)).mono ?_
  rintro e W5 ⟨hA,U⟩
  obtain ⟨A,n,c,f,rfl,kS⟩:=rT.out _ _ _ _ kA.out hA
  have lR:=ah (kH.out W5 (kA.out.stay U))
  have jL:=ah (kA.out.stay U)
  have mG:=ah kS
  clear hA U kS
  generalize kB:((aq (ch p x).1,some { M with pr:=upd M.pr x.p (some (ch p x).2) }):Rs × Option Mo) = RR at *
  go_wp2_with (first|refine au (b:=b6) (y:=RR.1) (u:=.slice A n c) rfl _ _ rfl rfl rfl rfl lR.out ?_;intro W7 h7 jI)
  refine bodyPost_ret (v:=.tuple #[.agg (rsc RR.1 (.slice A n c)),f]) (bf (p:=6) (q:=7) rfl _ rfl h7) rfl ⟨?_,HR.out W5 W7 jL.out jI⟩
  rw [kZ.out]
  exact mG.out W7 jI
 ·have hk:x.k = 4:=by have:=mN.out;omega
  have kZ:=ah (show bj M x r.v = (aq (ch p x).1,some { M with pr:=upd M.pr x.p (some (ch p x).2) }) by rw [oO.out];unfold cd;rw [if_neg (show x.k≠2 by omega),if_neg (show x.k≠14 by omega),if_neg (show x.k≠16 by omega),if_pos (show x.k = 3∨x.k = 4∨x.k = 5 by omega)])
  have pT:=ah (qj mL.out (by rw [fk hk];rfl))
  have Fe:=ah (show x.k = 3∨x.k = 4∨x.k = 5 by omega)
  clear hk
  go_wp2_with (first|refine ck rfl _ rfl rfl (jW.out wc kA.out) ?_)
  refine (sf (X:=X) (HI.out wc kA.out) HH.out.1 (fun k hk=>Nat.lt_of_lt_of_le (HH.out.2 k hk) (jU.out.stay kA.out).size) HP.out rfl Fe.out (fun _=>by have:=pT.out;omega)).mono ?_
  rintro e W5 ⟨hA,U⟩
  obtain ⟨A,n,c,f,rfl,kS⟩:=rT.out _ _ _ _ kA.out hA
  have lR:=ah (kH.out W5 (kA.out.stay U))
  have jL:=ah (kA.out.stay U)
  have mG:=ah kS
  clear hA U kS
  generalize kB:((aq (ch p x).1,some { M with pr:=upd M.pr x.p (some (ch p x).2) }):Rs × Option Mo) = RR at *
  go_wp2_with (first|refine au (b:=b6) (y:=RR.1) (u:=.slice A n c) rfl _ _ rfl rfl rfl rfl lR.out ?_;intro W7 h7 jI)
  refine bodyPost_ret (v:=.tuple #[.agg (rsc RR.1 (.slice A n c)),f]) (bf (p:=6) (q:=7) rfl _ rfl h7) rfl ⟨?_,HR.out W5 W7 jL.out jI⟩
  rw [kZ.out]
  exact mG.out W7 jI
 ·have hk:x.k = 5:=by have:=mN.out;omega
  have kZ:=ah (show bj M x r.v = (aq (ch p x).1,some { M with pr:=upd M.pr x.p (some (ch p x).2) }) by rw [oO.out];unfold cd;rw [if_neg (show x.k≠2 by omega),if_neg (show x.k≠14 by omega),if_neg (show x.k≠16 by omega),if_pos (show x.k = 3∨x.k = 4∨x.k = 5 by omega)])
  have pT:=ah (qj mL.out (by rw [fk hk];rfl))
  have Fe:=ah (show x.k = 3∨x.k = 4∨x.k = 5 by omega)
  clear hk
  go_wp2_with (first|refine ck rfl _ rfl rfl (jW.out wc kA.out) ?_)
  refine (sf (X:=X) (HI.out wc kA.out) HH.out.1 (fun k hk=>Nat.lt_of_lt_of_le (HH.out.2 k hk) (jU.out.stay kA.out).size) HP.out rfl Fe.out (fun _=>by have:=pT.out;omega)).mono ?_
  rintro e W5 ⟨hA,U⟩
  obtain ⟨A,n,c,f,rfl,kS⟩:=rT.out _ _ _ _ kA.out hA
  have lR:=ah (kH.out W5 (kA.out.stay U))
  have jL:=ah (kA.out.stay U)
  have mG:=ah kS
  clear hA U kS
  generalize kB:((aq (ch p x).1,some { M with pr:=upd M.pr x.p (some (ch p x).2) }):Rs × Option Mo) = RR at *
  go_wp2_with (first|refine au (b:=b6) (y:=RR.1) (u:=.slice A n c) rfl _ _ rfl rfl rfl rfl lR.out ?_;intro W7 h7 jI)
  refine bodyPost_ret (v:=.tuple #[.agg (rsc RR.1 (.slice A n c)),f]) (bf (p:=6) (q:=7) rfl _ rfl h7) rfl ⟨?_,HR.out W5 W7 jL.out jI⟩
  rw [kZ.out]
  exact mG.out W7 jI
 ·have hk:x.k = 8:=by have:=mN.out;omega
  have kZ:=ah (show bj M x r.v = ((cx p x).1,(cx p x).2.map fun q=>{ M with pr:=upd M.pr x.p (some q) }) by rw [oO.out];unfold cd;rw [if_neg (show x.k≠2 by omega),if_neg (show x.k≠14 by omega),if_neg (show x.k≠16 by omega),if_neg (show ¬ (x.k = 3∨x.k = 4∨x.k = 5) by omega),if_pos (show x.k = 8∨x.k = 9 by omega)])
  have Ad:=ah (show (((cx p x).1,none):Rs × Option Mo) = ((cx p x).1,(cx p x).2.map fun q=>{ M with pr:=upd M.pr x.p (some q) }) by rw [bF hk];rfl)
  have HK8:=ah hk
  have Bz:=ah (fY mL.out hk)
  rw [← Ad.out] at kZ
  clear hk
  go_wp2_with (first|refine ck rfl _ rfl rfl (jW.out wc kA.out) ?_)
  refine (load_any (X:=X) (HI.out wc kA.out) HH.out.1 HP.out HK8.out Bz.out).mono ?_
  rintro e W5 ⟨hA,U⟩
  obtain ⟨A,n,c,f,rfl,kS⟩:=rT.out _ _ _ _ kA.out hA
  have lR:=ah (kH.out W5 (kA.out.stay U))
  have jL:=ah (kA.out.stay U)
  have mG:=ah kS
  clear hA U kS
  generalize kB:(((cx p x).1,none):Rs × Option Mo) = RR at *
  go_wp2_with (first|refine au (b:=b6) (y:=RR.1) (u:=.slice A n c) rfl _ _ rfl rfl rfl rfl lR.out ?_;intro W7 h7 jI)
  refine bodyPost_ret (v:=.tuple #[.agg (rsc RR.1 (.slice A n c)),f]) (bf (p:=6) (q:=7) rfl _ rfl h7) rfl ⟨?_,HR.out W5 W7 jL.out jI⟩
  rw [kZ.out]
  exact mG.out W7 jI
 ·have hk:x.k = 9:=by have:=mN.out;omega
  have kZ:=ah (show bj M x r.v = ((cx p x).1,(cx p x).2.map fun q=>{ M with pr:=upd M.pr x.p (some q) }) by rw [oO.out];unfold cd;rw [if_neg (show x.k≠2 by omega),if_neg (show x.k≠14 by omega),if_neg (show x.k≠16 by omega),if_neg (show ¬ (x.k = 3∨x.k = 4∨x.k = 5) by omega),if_pos (show x.k = 8∨x.k = 9 by omega)])
  have HK8:=ah hk
  have Bz:=ah (bW mL.out hk)
  clear hk
  go_wp2_with (first|refine ck rfl _ rfl rfl (jW.out wc kA.out) ?_)
  refine (iW (X:=X) (HI.out wc kA.out) HH.out.1 (fun k hk=>Nat.lt_of_lt_of_le (HH.out.2 k hk) (jU.out.stay kA.out).size) HP.out HK8.out Bz.out (HV.out.stay (jU.out.stay kA.out)) lJ.out.1 HX.out.l).mono ?_
  rintro e W5 ⟨hA,U⟩
  obtain ⟨A,n,c,f,rfl,kS⟩:=rT.out _ _ _ _ kA.out hA
  have lR:=ah (kH.out W5 (kA.out.stay U))
  have jL:=ah (kA.out.stay U)
  have mG:=ah kS
  clear hA U kS
  generalize kB:(((cx p x).1,(cx p x).2.map fun q=>{ M with pr:=upd M.pr x.p (some q) }):Rs × Option Mo) = RR at *
  go_wp2_with (first|refine au (b:=b6) (y:=RR.1) (u:=.slice A n c) rfl _ _ rfl rfl rfl rfl lR.out ?_;intro W7 h7 jI)
  refine bodyPost_ret (v:=.tuple #[.agg (rsc RR.1 (.slice A n c)),f]) (bf (p:=6) (q:=7) rfl _ rfl h7) rfl ⟨?_,HR.out W5 W7 jL.out jI⟩
  rw [kZ.out]
  exact mG.out W7 jI
 ·have hk:x.k = 6:=by have:=mN.out;omega
  obtain ⟨mx,mR⟩:∃z:Int,z = max x.c 1:=⟨_,rfl⟩
  have As:∀(ts:Array TypeId) (ty:TypeId) (W:World),(Builtin.max_ ts ty #[.int .i64 x.c,.int .i64 1]).run Tryz.prog W = .ok (.int .i64 mx) W:=fun ts ty W=>by rw [Ar.run_max,← mR]
  obtain ⟨e0,rV⟩:∃z:Int,z = Ar.mdE p.rl x.g mx:=⟨_,rfl⟩
  obtain ⟨-,-,-,c3,c4,-,-,-,-,-,-,-,-,-⟩:=KB.cells (jW.out wc kA.out)
  obtain ⟨d,FA,qp,qo,gp',go',gp,hP,-,-⟩:=(HI.out wc kA.out).pr x.p p HP.out
  have qb0:wc.cell? ⟨gb x.p,0,none⟩ = some (.pointer (some ⟨d,0,none⟩)):=by simpa [prc] using hP.blk.cell 0
  have lb:=hP.blk.lt
  have lV:=ah (fun W (h:Chg [] wc W)=>Ar.md_at (hP.ar.stay h) hP.sp x.g mx)
  rw [← rV] at lV
  have oI:=ah (show bj M x r.v = if e0≠0 then (aq 7,none) else (aq 0,none) by rw [oO.out];unfold cd;rw [if_neg (show x.k≠2 by omega),if_neg (show x.k≠14 by omega),if_neg (show x.k≠16 by omega),if_neg (show ¬ (x.k = 3∨x.k = 4∨x.k = 5) by omega),if_neg (show ¬ (x.k = 8∨x.k = 9) by omega),← mR,← rV];by_cases h:e0≠0;rw [if_pos h,if_pos h];rw [if_neg h,if_neg h,if_neg (show x.k≠17 by omega),if_neg (show x.k≠15 by omega)])
  clear hP mR rV hk
  by_cases hz:e0 = 0
  case neg =>
   have kZ:=ah (show bj M x r.v = (aq 7,none) by rw [oI.out,if_pos hz])
   have d1:(e0 != 0) = true:=by simp [hz]
   have d2:(e0 == 0) = false:=beq_false_of_ne hz
   clear hz
   go_upto_region 34 with (fail)
   refine ke [1,0,0,1,0,1,0,1,0,3,0] ?_
   go_wp2_with (first|refine ao fun K I=>?_;go_simp;refine (lV.out _ (Chg.refl [] wc).drew).mono ?_;rintro e W3 ⟨rfl,jD⟩;refine I _ _ ?_;clear I K;have jE:=ah ((Chg.refl [] wc).drew.stay jD);clear jD c0' l4 q3 l3 q8 l8 c3 c4 qb0 lb;have kC:=ah (kA.out.stay jE.out);obtain ⟨c0',-,-,-,-,-,-,-,-,-,-,-,l4,-⟩:=KB.cells (jW.out W3 kC.out);rw [← mN.out] at c0'|refine av fun K I=>?_|refine ai fun K I=>?_;go_simp;refine I _ _ ?_;clear I K|refine ao fun K I=>?_;go_simp|refine aj ?_)
   refine (nB.out _ _).mono ?_
   rintro e W5 ⟨rfl,U⟩
   have lR:=ah (kH.out W5 (kC.out.stay U))
   have jL:=ah (kC.out.stay U)
   clear U
   go_wp2_with (first|refine au (b:=b6) (y:=aq 7) (u:=zV) rfl _ _ rfl rfl rfl rfl lR.out ?_;intro W7 h7 jI)
   refine bodyPost_ret (v:=.tuple #[.agg (rsc (aq 7) zV),.nilFunc]) (bf (p:=6) (q:=7) rfl _ rfl h7) rfl ⟨?_,HR.out W5 W7 jL.out jI⟩
   rw [kZ.out]
   exact AnsR.plain rfl
  have kZ:=ah (show bj M x r.v = (aq 0,none) by rw [oI.out,if_neg (fun h=>h hz)])
  subst hz
  go_upto_region 34 with (fail)
  refine ke [1,0,0,1,0,1,0,1,0,3,0] ?_
  go_wp2_with (first|refine ao fun K I=>?_;go_simp;refine (lV.out _ (Chg.refl [] wc).drew).mono ?_;rintro e W3 ⟨rfl,jD⟩;refine I _ _ ?_;clear I K;have jE:=ah ((Chg.refl [] wc).drew.stay jD);clear jD c0' l4 q3 l3 q8 l8 c3 c4 qb0 lb;have kC:=ah (kA.out.stay jE.out);obtain ⟨c0',-,-,-,-,-,-,-,-,-,-,-,l4,-⟩:=KB.cells (jW.out W3 kC.out);rw [← mN.out] at c0'|refine av fun K I=>?_|refine ai fun K I=>?_;go_simp;refine I _ _ ?_;clear I K|refine ao fun K I=>?_;go_simp|refine aj ?_)
  refine (nB.out _ _).mono ?_
  rintro e W5 ⟨rfl,U⟩
  have lR:=ah (kH.out W5 (kC.out.stay U))
  have jL:=ah (kC.out.stay U)
  clear U
  go_wp2_with (first|refine au (b:=b6) (y:=aq 0) (u:=zV) rfl _ _ rfl rfl rfl rfl lR.out ?_;intro W7 h7 jI)
  refine bodyPost_ret (v:=.tuple #[.agg (rsc (aq 0) zV),.nilFunc]) (bf (p:=6) (q:=7) rfl _ rfl h7) rfl ⟨?_,HR.out W5 W7 jL.out jI⟩
  rw [kZ.out]
  exact AnsR.plain rfl
 ·have hk:x.k = 7:=by have:=mN.out;omega
  obtain ⟨mx,mR⟩:∃z:Int,z = max x.c 1:=⟨_,rfl⟩
  have As:∀(ts:Array TypeId) (ty:TypeId) (W:World),(Builtin.max_ ts ty #[.int .i64 x.c,.int .i64 1]).run Tryz.prog W = .ok (.int .i64 mx) W:=fun ts ty W=>by rw [Ar.run_max,← mR]
  obtain ⟨e0,rV⟩:∃z:Int,z = Ar.mdE p.rl x.g mx:=⟨_,rfl⟩
  obtain ⟨-,-,-,c3,c4,-,-,-,-,-,-,-,-,-⟩:=KB.cells (jW.out wc kA.out)
  obtain ⟨d,FA,qp,qo,gp',go',gp,hP,-,-⟩:=(HI.out wc kA.out).pr x.p p HP.out
  have qb0:wc.cell? ⟨gb x.p,0,none⟩ = some (.pointer (some ⟨d,0,none⟩)):=by simpa [prc] using hP.blk.cell 0
  have lb:=hP.blk.lt
  have lV:=ah (fun W (h:Chg [] wc W)=>Ar.md_at (hP.ar.stay h) hP.sp x.g mx)
  rw [← rV] at lV
  have oI:=ah (show bj M x r.v = if e0≠0 then (aq 7,none) else (aq 0,none) by rw [oO.out];unfold cd;rw [if_neg (show x.k≠2 by omega),if_neg (show x.k≠14 by omega),if_neg (show x.k≠16 by omega),if_neg (show ¬ (x.k = 3∨x.k = 4∨x.k = 5) by omega),if_neg (show ¬ (x.k = 8∨x.k = 9) by omega),← mR,← rV];by_cases h:e0≠0;rw [if_pos h,if_pos h];rw [if_neg h,if_neg h,if_neg (show x.k≠17 by omega),if_neg (show x.k≠15 by omega)])
  clear hP mR rV hk
  by_cases hz:e0 = 0
  case neg =>
   have kZ:=ah (show bj M x r.v = (aq 7,none) by rw [oI.out,if_pos hz])
   have d1:(e0 != 0) = true:=by simp [hz]
   have d2:(e0 == 0) = false:=beq_false_of_ne hz
   clear hz
   go_upto_region 34 with (fail)
   refine ke [1,0,0,1,0,1,0,1,0,3,0] ?_
   go_wp2_with (first|refine ao fun K I=>?_;go_simp;refine (lV.out _ (Chg.refl [] wc).drew).mono ?_;rintro e W3 ⟨rfl,jD⟩;refine I _ _ ?_;clear I K;have jE:=ah ((Chg.refl [] wc).drew.stay jD);clear jD c0' l4 q3 l3 q8 l8 c3 c4 qb0 lb;have kC:=ah (kA.out.stay jE.out);obtain ⟨c0',-,-,-,-,-,-,-,-,-,-,-,l4,-⟩:=KB.cells (jW.out W3 kC.out);rw [← mN.out] at c0'|refine av fun K I=>?_|refine ai fun K I=>?_;go_simp;refine I _ _ ?_;clear I K|refine ao fun K I=>?_;go_simp|refine aj ?_)
   refine (nB.out _ _).mono ?_
   rintro e W5 ⟨rfl,U⟩
   have lR:=ah (kH.out W5 (kC.out.stay U))
   have jL:=ah (kC.out.stay U)
   clear U
   go_wp2_with (first|refine au (b:=b6) (y:=aq 7) (u:=zV) rfl _ _ rfl rfl rfl rfl lR.out ?_;intro W7 h7 jI)
   refine bodyPost_ret (v:=.tuple #[.agg (rsc (aq 7) zV),.nilFunc]) (bf (p:=6) (q:=7) rfl _ rfl h7) rfl ⟨?_,HR.out W5 W7 jL.out jI⟩
   rw [kZ.out]
   exact AnsR.plain rfl
  have kZ:=ah (show bj M x r.v = (aq 0,none) by rw [oI.out,if_neg (fun h=>h hz)])
  subst hz
  go_upto_region 34 with (fail)
  refine ke [1,0,0,1,0,1,0,1,0,3,0] ?_
  go_wp2_with (first|refine ao fun K I=>?_;go_simp;refine (lV.out _ (Chg.refl [] wc).drew).mono ?_;rintro e W3 ⟨rfl,jD⟩;refine I _ _ ?_;clear I K;have jE:=ah ((Chg.refl [] wc).drew.stay jD);clear jD c0' l4 q3 l3 q8 l8 c3 c4 qb0 lb;have kC:=ah (kA.out.stay jE.out);obtain ⟨c0',-,-,-,-,-,-,-,-,-,-,-,l4,-⟩:=KB.cells (jW.out W3 kC.out);rw [← mN.out] at c0'|refine av fun K I=>?_|refine ai fun K I=>?_;go_simp;refine I _ _ ?_;clear I K|refine ao fun K I=>?_;go_simp|refine aj ?_)
  refine (nB.out _ _).mono ?_
  rintro e W5 ⟨rfl,U⟩
  have lR:=ah (kH.out W5 (kC.out.stay U))
  have jL:=ah (kC.out.stay U)
  clear U
  go_wp2_with (first|refine au (b:=b6) (y:=aq 0) (u:=zV) rfl _ _ rfl rfl rfl rfl lR.out ?_;intro W7 h7 jI)
  refine bodyPost_ret (v:=.tuple #[.agg (rsc (aq 0) zV),.nilFunc]) (bf (p:=6) (q:=7) rfl _ rfl h7) rfl ⟨?_,HR.out W5 W7 jL.out jI⟩
  rw [kZ.out]
  exact AnsR.plain rfl
 ·have hk:x.k = 15:=by have:=mN.out;omega
  obtain ⟨mx,mR⟩:∃z:Int,z = max x.c 1:=⟨_,rfl⟩
  have As:∀(ts:Array TypeId) (ty:TypeId) (W:World),(Builtin.max_ ts ty #[.int .i64 x.c,.int .i64 1]).run Tryz.prog W = .ok (.int .i64 mx) W:=fun ts ty W=>by rw [Ar.run_max,← mR]
  obtain ⟨e0,rV⟩:∃z:Int,z = Ar.mdE p.rl x.g mx:=⟨_,rfl⟩
  obtain ⟨-,-,-,c3,c4,-,-,-,-,-,-,-,-,-⟩:=KB.cells (jW.out wc kA.out)
  obtain ⟨d,FA,qp,qo,gp',go',gp,hP,-,-⟩:=(HI.out wc kA.out).pr x.p p HP.out
  have qb0:wc.cell? ⟨gb x.p,0,none⟩ = some (.pointer (some ⟨d,0,none⟩)):=by simpa [prc] using hP.blk.cell 0
  have lb:=hP.blk.lt
  have lV:=ah (fun W (h:Chg [] wc W)=>Ar.md_at (hP.ar.stay h) hP.sp x.g mx)
  rw [← rV] at lV
  have oI:=ah (show bj M x r.v = if e0≠0 then (aq 7,none) else (aq 0,some { M with pr:=upd M.pr x.p (some { p with ow:=fun q=>if inR x.g x.c q then some (x.ok,x.om) else p.ow q }) }) by rw [oO.out];unfold cd;rw [if_neg (show x.k≠2 by omega),if_neg (show x.k≠14 by omega),if_neg (show x.k≠16 by omega),if_neg (show ¬ (x.k = 3∨x.k = 4∨x.k = 5) by omega),if_neg (show ¬ (x.k = 8∨x.k = 9) by omega),← mR,← rV];by_cases h:e0≠0;rw [if_pos h,if_pos h];rw [if_neg h,if_neg h,if_neg (show x.k≠17 by omega),if_pos hk])
  have pT:=ah (qj mL.out (by rw [fk hk];rfl))
  clear hP mR rV hk
  by_cases hz:e0 = 0
  case neg =>
   have kZ:=ah (show bj M x r.v = (aq 7,none) by rw [oI.out,if_pos hz])
   have d1:(e0 != 0) = true:=by simp [hz]
   have d2:(e0 == 0) = false:=beq_false_of_ne hz
   clear hz
   go_upto_region 34 with (fail)
   refine ke [1,0,0,1,0,1,0,1,0,3,0] ?_
   go_wp2_with (first|refine ao fun K I=>?_;go_simp;refine (lV.out _ (Chg.refl [] wc).drew).mono ?_;rintro e W3 ⟨rfl,jD⟩;refine I _ _ ?_;clear I K;have jE:=ah ((Chg.refl [] wc).drew.stay jD);clear jD c0' l4 q3 l3 q8 l8 c3 c4 qb0 lb;have kC:=ah (kA.out.stay jE.out);obtain ⟨c0',-,-,-,-,-,-,-,-,-,-,-,l4,-⟩:=KB.cells (jW.out W3 kC.out);rw [← mN.out] at c0'|refine av fun K I=>?_|refine ai fun K I=>?_;go_simp;refine I _ _ ?_;clear I K|refine ao fun K I=>?_;go_simp|refine aj ?_)
   refine (nB.out _ _).mono ?_
   rintro e W5 ⟨rfl,U⟩
   have lR:=ah (kH.out W5 (kC.out.stay U))
   have jL:=ah (kC.out.stay U)
   clear U
   go_wp2_with (first|refine au (b:=b6) (y:=aq 7) (u:=zV) rfl _ _ rfl rfl rfl rfl lR.out ?_;intro W7 h7 jI)
   refine bodyPost_ret (v:=.tuple #[.agg (rsc (aq 7) zV),.nilFunc]) (bf (p:=6) (q:=7) rfl _ rfl h7) rfl ⟨?_,HR.out W5 W7 jL.out jI⟩
   rw [kZ.out]
   exact AnsR.plain rfl
  have kZ:=ah (show bj M x r.v = (aq 0,some { M with pr:=upd M.pr x.p (some { p with ow:=fun q=>if inR x.g x.c q then some (x.ok,x.om) else p.ow q }) }) by rw [oI.out,if_neg (fun h=>h hz)])
  subst hz
  go_upto_region 34 with (fail)
  refine ke [1,0,0,1,0,1,0,1,0,3,0] ?_
  go_wp2_with (first|refine ao fun K I=>?_;go_simp;refine (lV.out _ (Chg.refl [] wc).drew).mono ?_;rintro e W3 ⟨rfl,jD⟩;refine I _ _ ?_;clear I K;have jE:=ah ((Chg.refl [] wc).drew.stay jD);clear jD c0' l4 q3 l3 q8 l8 c3 c4 qb0 lb;have kC:=ah (kA.out.stay jE.out);obtain ⟨c0',-,-,-,-,-,-,-,-,-,-,-,l4,-⟩:=KB.cells (jW.out W3 kC.out);rw [← mN.out] at c0'|refine av fun K I=>?_|refine ai fun K I=>?_;go_simp;refine I _ _ ?_;clear I K|refine ao fun K I=>?_;go_simp|refine aj ?_)
  refine (nB.out _ _).mono ?_
  rintro e W5 ⟨rfl,U⟩
  have lR:=ah (kH.out W5 (kC.out.stay U))
  have jL:=ah (kC.out.stay U)
  have nW:=ah U
  clear U
  go_wp2_with (first|refine au (b:=b6) (y:=aq 0) (u:=zV) rfl _ _ rfl rfl rfl rfl lR.out ?_;intro W7 h7 jI)
  have lF:=HR.out W5 W7 jL.out jI
  have he:=HE.out
  have hg:=AF.out
  have oH:=jU.out.size
  have lY:=sH.out
  refine bodyPost_ret (v:=.tuple #[.agg (rsc (aq 0) zV),.func (.func 71) #[] #[.pointer (some ⟨b4,0,none⟩),.pointer (some ⟨b8,0,none⟩)]]) (bf (p:=6) (q:=7) rfl _ rfl h7) rfl ⟨?_,lF⟩
  rw [kZ.out]
  refine ⟨none,0,0,_,rfl,RE.nil _ _ _ _ _,(fun _ h=>(bw h).elim),Eff.of (oc Tryz.func71 (by kernel_rfl) (by kernel_rfl)) fun F W hF hW=>?_⟩
  have m4:KB W b4 x (.slice A0 x.l.length c0):=Blk.chg (Blk.chg (jW.out W5 jL.out) jI (by simp;omega)) hW (hF.new (by omega))
  have m8:=((vY.out W5 (jE.out.stay nW.out)).chg jI (by simp;omega)).chg hW (hF.new (by omega))
  refine (mbind_do (HIW.out W (hF.cp lF hW)) HH.out.1 (fun k hk=>Nat.lt_of_lt_of_le (HH.out.2 k hk) (hF.cp lF hW).size) HP.out m4 m8 ⟨HX.out.ok,HX.out.om⟩ (by have:=pT.out;omega)).mono ?_
  rintro e W' ⟨rfl,k1,O',k2,k3⟩
  exact ⟨rfl,k1.or,O',k2,fun k hk=>.inl (k3 k hk)⟩
 ·have hk:x.k = 17:=by have:=mN.out;omega
  obtain ⟨mx,mR⟩:∃z:Int,z = max x.c 1:=⟨_,rfl⟩
  have As:∀(ts:Array TypeId) (ty:TypeId) (W:World),(Builtin.max_ ts ty #[.int .i64 x.c,.int .i64 1]).run Tryz.prog W = .ok (.int .i64 mx) W:=fun ts ty W=>by rw [Ar.run_max,← mR]
  obtain ⟨e0,rV⟩:∃z:Int,z = Ar.mdE p.rl x.g mx:=⟨_,rfl⟩
  obtain ⟨-,-,-,c3,c4,-,-,-,-,-,-,-,-,-⟩:=KB.cells (jW.out wc kA.out)
  obtain ⟨d,FA,qp,qo,gp',go',gp,hP,-,-⟩:=(HI.out wc kA.out).pr x.p p HP.out
  have qb0:wc.cell? ⟨gb x.p,0,none⟩ = some (.pointer (some ⟨d,0,none⟩)):=by simpa [prc] using hP.blk.cell 0
  have lb:=hP.blk.lt
  have lV:=ah (fun W (h:Chg [] wc W)=>Ar.md_at (hP.ar.stay h) hP.sp x.g mx)
  rw [← rV] at lV
  have oI:=ah (show bj M x r.v = if e0≠0 then (aq 7,none) else (⟨0,min r.v (M.c 0).toNat,[]⟩,none) by rw [oO.out];unfold cd;rw [if_neg (show x.k≠2 by omega),if_neg (show x.k≠14 by omega),if_neg (show x.k≠16 by omega),if_neg (show ¬ (x.k = 3∨x.k = 4∨x.k = 5) by omega),if_neg (show ¬ (x.k = 8∨x.k = 9) by omega),← mR,← rV];by_cases h:e0≠0;rw [if_pos h,if_pos h];rw [if_neg h,if_neg h,if_pos hk])
  clear hP mR rV hk
  by_cases hz:e0 = 0
  case neg =>
   have kZ:=ah (show bj M x r.v = (aq 7,none) by rw [oI.out,if_pos hz])
   have d1:(e0 != 0) = true:=by simp [hz]
   have d2:(e0 == 0) = false:=beq_false_of_ne hz
   clear hz
   go_upto_region 34 with (fail)
   refine ke [1,0,0,1,0,1,0,1,0,3,0] ?_
   go_wp2_with (first|refine ao fun K I=>?_;go_simp;refine (lV.out _ (Chg.refl [] wc).drew).mono ?_;rintro e W3 ⟨rfl,jD⟩;refine I _ _ ?_;clear I K;have jE:=ah ((Chg.refl [] wc).drew.stay jD);clear jD c0' l4 q3 l3 q8 l8 c3 c4 qb0 lb;have kC:=ah (kA.out.stay jE.out);obtain ⟨c0',-,-,-,-,-,-,-,-,-,-,-,l4,-⟩:=KB.cells (jW.out W3 kC.out);rw [← mN.out] at c0'|refine av fun K I=>?_|refine ai fun K I=>?_;go_simp;refine I _ _ ?_;clear I K|refine ao fun K I=>?_;go_simp|refine aj ?_)
   refine (nB.out _ _).mono ?_
   rintro e W5 ⟨rfl,U⟩
   have lR:=ah (kH.out W5 (kC.out.stay U))
   have jL:=ah (kC.out.stay U)
   clear U
   go_wp2_with (first|refine au (b:=b6) (y:=aq 7) (u:=zV) rfl _ _ rfl rfl rfl rfl lR.out ?_;intro W7 h7 jI)
   refine bodyPost_ret (v:=.tuple #[.agg (rsc (aq 7) zV),.nilFunc]) (bf (p:=6) (q:=7) rfl _ rfl h7) rfl ⟨?_,HR.out W5 W7 jL.out jI⟩
   rw [kZ.out]
   exact AnsR.plain rfl
  have kZ:=ah (show bj M x r.v = (⟨0,min r.v (M.c 0).toNat,[]⟩,none) by rw [oI.out,if_neg (fun h=>h hz)])
  subst hz
  go_upto_region 34 with (fail)
  refine ke [1,0,0,1,0,1,0,1,0,3,0] ?_
  go_wp2_with (first|refine ao fun K I=>?_;go_simp;refine (lV.out _ (Chg.refl [] wc).drew).mono ?_;rintro e W3 ⟨rfl,jD⟩;refine I _ _ ?_;clear I K;have jE:=ah ((Chg.refl [] wc).drew.stay jD);clear jD c0' l4 q3 l3 q8 l8 c3 c4 qb0 lb;have kC:=ah (kA.out.stay jE.out);obtain ⟨c0',-,-,-,-,-,-,-,-,-,-,-,l4,-⟩:=KB.cells (jW.out W3 kC.out);rw [← mN.out] at c0'|refine av fun K I=>?_|refine ai fun K I=>?_;go_simp;refine I _ _ ?_;clear I K|refine ao fun K I=>?_;go_simp|refine aj ?_)
  obtain ⟨cn,vM,Di⟩:∃n:Nat,M.c 0 = n∧n≤1000:=by
   have h:=mayB_iff.1 (fq mL.out).1
   have:=h.n1
   have:=h.n8
   exact ⟨(M.c 0).toNat,by omega,by omega⟩
  obtain ⟨mn,Du⟩:∃n:Nat,n = min r.v cn:=⟨_,rfl⟩
  obtain ⟨rv,EA⟩:∃z:Int,z = (r.v:Int):=⟨_,rfl⟩
  have hmn:∀(ts:Array TypeId) (ty:TypeId) (W:World),(Builtin.min_ ts ty #[.int .u64 rv,.int .u64 (cn:Int)]).run Tryz.prog W = .ok (.int .u64 (mn:Int)) W:=fun ts ty W=>by rw [Ar.run_min,EA,Du];congr 2;congr 1;omega
  obtain ⟨-,p1,-,l5,-⟩:=XB.cells (mX.out W3 kC.out)
  rw [← EA] at p1
  have q3:W3.cell? ⟨b3,0,none⟩ = some (.pointer (some ⟨m,0,none⟩)):=by simpa using (jY.out W3 kC.out).cell 0
  have l3:=(jY.out W3 kC.out).lt
  obtain ⟨-,-,-,qm,qn⟩:=cc (HI.out W3 kC.out).blk
  rw [vM] at qn
  rw [vM,Int.toNat_natCast,← Du] at kZ
  have sQ:IntKind.u64.wrap (cn:Int) = (cn:Int):=by rw [IntKind.wrap_u64];omega
  have Cm:=ah (br_v mn)
  have HX3d:=ah (kH.out W3.drew kC.out.drew)
  clear vM Di Du EA
  go_upto_region 38 with (fail)
  refine dq [0,1,1,0,0,0,1,0,0,0,3,0] ?_
  go_wp2_with (first|refine qu _ rfl Cm.out ?_ ?_;(focus (simp [Act.eval];done))|refine ao fun K I=>?_;refine iy (y:=⟨0,mn,[]⟩) (u:=zV) _ _ rfl rfl rfl rfl HX3d.out ?_;intro W7 h7 jI;refine I _ _ ?_;clear I K|refine av fun K I=>?_|refine ai fun K I=>?_;go_simp;refine I _ _ ?_;clear I K|refine ao fun K I=>?_;go_simp|refine aj ?_)
  refine bodyPost_ret (v:=.tuple #[.agg (rsc ⟨0,mn,[]⟩ zV),.nilFunc]) (bf (p:=6) (q:=7) rfl _ rfl h7) rfl ⟨?_,HR.out W3.drew W7 kC.out.drew jI⟩
  rw [kZ.out]
  exact AnsR.plain rfl
 ·have hk:x.k = 18:=by have:=mN.out;omega
  obtain ⟨mx,mR⟩:∃z:Int,z = max x.c 1:=⟨_,rfl⟩
  have As:∀(ts:Array TypeId) (ty:TypeId) (W:World),(Builtin.max_ ts ty #[.int .i64 x.c,.int .i64 1]).run Tryz.prog W = .ok (.int .i64 mx) W:=fun ts ty W=>by rw [Ar.run_max,← mR]
  obtain ⟨e0,rV⟩:∃z:Int,z = Ar.mdE p.rl x.g mx:=⟨_,rfl⟩
  obtain ⟨-,-,-,c3,c4,-,-,-,-,-,-,-,-,-⟩:=KB.cells (jW.out wc kA.out)
  obtain ⟨d,FA,qp,qo,gp',go',gp,hP,-,-⟩:=(HI.out wc kA.out).pr x.p p HP.out
  have qb0:wc.cell? ⟨gb x.p,0,none⟩ = some (.pointer (some ⟨d,0,none⟩)):=by simpa [prc] using hP.blk.cell 0
  have lb:=hP.blk.lt
  have lV:=ah (fun W (h:Chg [] wc W)=>Ar.md_at (hP.ar.stay h) hP.sp x.g mx)
  rw [← rV] at lV
  have oI:=ah (show bj M x r.v = if e0≠0 then (aq 7,none) else (aq 0,none) by rw [oO.out];unfold cd;rw [if_neg (show x.k≠2 by omega),if_neg (show x.k≠14 by omega),if_neg (show x.k≠16 by omega),if_neg (show ¬ (x.k = 3∨x.k = 4∨x.k = 5) by omega),if_neg (show ¬ (x.k = 8∨x.k = 9) by omega),← mR,← rV];by_cases h:e0≠0;rw [if_pos h,if_pos h];rw [if_neg h,if_neg h,if_neg (show x.k≠17 by omega),if_neg (show x.k≠15 by omega)])
  clear hP mR rV hk
  by_cases hz:e0 = 0
  case neg =>
   have kZ:=ah (show bj M x r.v = (aq 7,none) by rw [oI.out,if_pos hz])
   have d1:(e0 != 0) = true:=by simp [hz]
   have d2:(e0 == 0) = false:=beq_false_of_ne hz
   clear hz
   go_upto_region 34 with (fail)
   refine ke [1,0,0,1,0,1,0,1,0,3,0] ?_
   go_wp2_with (first|refine ao fun K I=>?_;go_simp;refine (lV.out _ (Chg.refl [] wc).drew).mono ?_;rintro e W3 ⟨rfl,jD⟩;refine I _ _ ?_;clear I K;have jE:=ah ((Chg.refl [] wc).drew.stay jD);clear jD c0' l4 q3 l3 q8 l8 c3 c4 qb0 lb;have kC:=ah (kA.out.stay jE.out);obtain ⟨c0',-,-,-,-,-,-,-,-,-,-,-,l4,-⟩:=KB.cells (jW.out W3 kC.out);rw [← mN.out] at c0'|refine av fun K I=>?_|refine ai fun K I=>?_;go_simp;refine I _ _ ?_;clear I K|refine ao fun K I=>?_;go_simp|refine aj ?_)
   refine (nB.out _ _).mono ?_
   rintro e W5 ⟨rfl,U⟩
   have lR:=ah (kH.out W5 (kC.out.stay U))
   have jL:=ah (kC.out.stay U)
   clear U
   go_wp2_with (first|refine au (b:=b6) (y:=aq 7) (u:=zV) rfl _ _ rfl rfl rfl rfl lR.out ?_;intro W7 h7 jI)
   refine bodyPost_ret (v:=.tuple #[.agg (rsc (aq 7) zV),.nilFunc]) (bf (p:=6) (q:=7) rfl _ rfl h7) rfl ⟨?_,HR.out W5 W7 jL.out jI⟩
   rw [kZ.out]
   exact AnsR.plain rfl
  have kZ:=ah (show bj M x r.v = (aq 0,none) by rw [oI.out,if_neg (fun h=>h hz)])
  subst hz
  go_upto_region 34 with (fail)
  refine ke [1,0,0,1,0,1,0,1,0,3,0] ?_
  go_wp2_with (first|refine ao fun K I=>?_;go_simp;refine (lV.out _ (Chg.refl [] wc).drew).mono ?_;rintro e W3 ⟨rfl,jD⟩;refine I _ _ ?_;clear I K;have jE:=ah ((Chg.refl [] wc).drew.stay jD);clear jD c0' l4 q3 l3 q8 l8 c3 c4 qb0 lb;have kC:=ah (kA.out.stay jE.out);obtain ⟨c0',-,-,-,-,-,-,-,-,-,-,-,l4,-⟩:=KB.cells (jW.out W3 kC.out);rw [← mN.out] at c0'|refine av fun K I=>?_|refine ai fun K I=>?_;go_simp;refine I _ _ ?_;clear I K|refine ao fun K I=>?_;go_simp|refine aj ?_)
  refine (nB.out _ _).mono ?_
  rintro e W5 ⟨rfl,U⟩
  have lR:=ah (kH.out W5 (kC.out.stay U))
  have jL:=ah (kC.out.stay U)
  clear U
  go_wp2_with (first|refine au (b:=b6) (y:=aq 0) (u:=zV) rfl _ _ rfl rfl rfl rfl lR.out ?_;intro W7 h7 jI)
  refine bodyPost_ret (v:=.tuple #[.agg (rsc (aq 0) zV),.nilFunc]) (bf (p:=6) (q:=7) rfl _ rfl h7) rfl ⟨?_,HR.out W5 W7 jL.out jI⟩
  rw [kZ.out]
  exact AnsR.plain rfl
end Go.Proofs.YtfoleblcaloeoaaGreatDoor
