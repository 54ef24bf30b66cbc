import Derived.Test.YtfoleblcaloeoaaGreatDoorZai
set_option maxHeartbeats 40000000
set_option maxRecDepth 20000
namespace Go.Proofs.YtfoleblcaloeoaaGreatDoor.Ar
open Go Go.RowKit
def hasB (l:List Rn) (q:Int):Bool:=decide (rt l q≠0)
variable {l:List Rn} {d:Nat} {w:World}
theorem rights_at {F:List Nat} (h:AMem w d l F) (hs:Sp l) (q:Int):Calls Tryz.prog 48 #[.pointer (some ⟨d,0,none⟩),.int .i64 q] w fun e w'=>e = .returned (.tuple #[.int .u8 (rt l q),.bool (hasB l q)])∧Chg [] w w':=by
 obtain ⟨v,hb,rX,hF,kG⟩:=h;obtain ⟨A,c0,rfl⟩:=rX.form;have b0:=hb.cell 0;simp at b0;have sV:=hs.len;have Hs:=bk rX;have Hl:=bk hs;clear rX hs hb hF kG;obtain ⟨x,hx⟩:∃x,rt l q = x:=⟨_,rfl⟩;obtain ⟨y,hy⟩:∃y,hasB l q = y:=⟨_,rfl⟩;rw [hx,hy];have Hx:=bk hx;have Hy:=bk hy;clear hx hy;go_enter Tryz.func48,Tryz.ntmps48;go_wp2_with fail;go_loopw [15] (fun i wr=>∃k:Nat,k≤l.length∧i = .int .i64 k∧Hid (rt l q = rt (l.drop k) q)∧Chg [] w wr) (fun i _=>l.length - (intOf i).toNat)
 case atStart=>exact ⟨0,by omega,rfl,bk (by simp),av _ _⟩
 case round =>
  obtain ⟨k,hk,rfl,qS,lN⟩:=hrel;by_cases hkt:k < l.length
  ·have xN:=Hs.out.stay lN;obtain ⟨g0,off,rfl⟩:=SE.addr xN (by omega);obtain ⟨q0,q1,q2⟩:=RR.cells xN.re hkt;have tO:g0 < wr.heap.size:=xN.own_lt g0 (by simp [own,Value.ownBlock]);have oV:=Hl.out.mem (ao hkt);have hdr:rt (l.drop k) q = if l[k].p≤q∧q < l[k].e then l[k].g else rt (l.drop (k+1)) q:=by rw [List.drop_eq_getElem_cons hkt];rfl
   obtain ⟨r,hr⟩:∃r,r = l[k]:=⟨_,rfl⟩;rw [← hr] at q0 q1 q2 oV hdr;obtain ⟨a1,a2,a3,a4,a5⟩:=oV;clear hr xN;obtain ⟨p,c,g⟩:=r;simp only at q0 q1 q2 a1 a2 a3 a4 a5 hdr;have Hdr:=bk hdr;have pU:Blk (wr.alloc (.cells #[.int .i64 p,.int .i64 c,.int .u8 g] 144)) wr.heap.size 144 #[.int .i64 p,.int .i64 c,.int .u8 g]:=ax wr 144 _;clear hdr;by_cases h1:p≤q
   ·by_cases h2:q < p+c
    ·have ex:g = x:=(by rw [← Hx.out,qS.out,Hdr.out,ah ⟨h1,h2⟩]);have ey:true = y:=(by rw [← Hy.out];unfold hasB;rw [Hx.out,← ex];simp;omega);subst ex;subst ey;go_wp2_with (go_at_call 82;refine (lv p c g _ ⟨by omega,by omega⟩ ⟨by omega,by omega⟩).mono ?_;rintro e W1 ⟨rfl,kO⟩;have lH:=box3 (pU.chg kO ab);obtain ⟨e0,e1,e2,e3⟩:=lH);go_ret2;exact ⟨rfl,(lN.alloc _).stay kO⟩
    ·go_wp2_with (go_at_call 82;refine (lv p c g _ ⟨by omega,by omega⟩ ⟨by omega,by omega⟩).mono ?_;rintro e W1 ⟨rfl,kO⟩);go_roundw
     case rel=>exact ⟨k+1,by omega,by go_num,bk (by rw [qS.out,Hdr.out,ag (by have e:(⟨p,c,g⟩:Rn).e = p+c:=rfl;omega)]),(lN.alloc _).stay kO⟩
     case measure=>simp [intOf];omega
   ·go_wp2_with fail;go_roundw
    case rel=>exact ⟨k+1,by omega,by go_num,bk (by rw [qS.out,Hdr.out,ag (by omega)]),lN.alloc _⟩
    case measure=>simp [intOf];omega
  ·have ek:l.drop k = []:=List.drop_eq_nil_of_le (by omega);have ex:(0:Int) = x:=(by rw [← Hx.out,qS.out,ek];rfl);have ey:false = y:=(by rw [← Hy.out];unfold hasB;rw [Hx.out,← ex];simp);subst ex;subst ey;clear ek;go_wp2_with fail;go_ret2;exact ⟨rfl,lN⟩
variable {v:Value}
theorem jA (hl:RR w v l) (kQ:l.length≤1000000):Calls Tryz.prog 109 #[v] w fun e w'=>∃A n c,e = .returned (.slice A n c)∧SR w' (.slice A n c) l∧(∀k∈own (.slice A n c),w.heap.size≤k)∧Chg [] w w':=by
 obtain ⟨A,c,rfl⟩:=hl.form;cases A with
 | none =>
  have hl0:l = []:=by
   cases l with
   | nil=>rfl
   | cons a l =>obtain ⟨g,off,e⟩:=RE.addr hl (by simp);cases e
  subst hl0;have kT:∀W:World,(binOp .eql 140 (.slice none ([]:List Rn).length c) (.slice none 0 0)).run Tryz.prog W = .ok (.bool true) W:=fun W=>Lib.run_eql_slice_nil W 140 144 _ _ _ 0 0 Tryz.underlying140;clear hl;simp only [List.length_nil] at kT ⊢;go_enter Tryz.func109,Tryz.ntmps109;go_wp2_with fail;go_ret;exact ⟨none,0,0,rfl,SE.nil _ _ _ _,fun k hk=>(cw hk).elim,av _ _⟩
 | some a0 =>have kT:∀W:World,(binOp .eql 140 (.slice (some a0) l.length c) (.slice none 0 0)).run Tryz.prog W = .ok (.bool false) W:=fun W=>Lib.run_eql_slice_nil W 140 144 _ _ _ 0 0 Tryz.underlying140;have Hl:=bk hl;clear hl;go_enter Tryz.func109,Tryz.ntmps109;go_wp2_with (at_builtin;refine js rfl _ _ rfl (.slice (some ⟨w.heap.size,0,none⟩) 0 0) _ rfl rfl (l:=[]) (m:=l) (pf w 144 3) (Hl.out.stay ((av _ _).alloc _)) (by simpa using kQ) ?_;intro A9 n9 c9 W9 nQ mY lC oF);go_ret;exact ⟨_,_,_,rfl,mY,fun k hk=>(oF k hk).elim (fun h=>by simp [own,Value.ownBlock] at h;omega) (fun h=>by simp at h;omega),((av [] w).alloc _).trans lC (fun k hk=>.inr (by simp [own,Value.ownBlock] at hk;omega))⟩
theorem copy_at {F:List Nat} (h:AMem w d l F) (kQ:l.length≤1000):Calls Tryz.prog 79 #[.pointer (some ⟨d,0,none⟩)] w fun e w'=>∃d' F',e = .returned (.pointer (some ⟨d',0,none⟩))∧AMem w' d' l F'∧(∀k∈F',w.heap.size≤k)∧Chg [] w w':=by
 obtain ⟨v,hb,hs,hF,kG⟩:=h;obtain ⟨A,c0,rfl⟩:=hs.form;have b0:=hb.cell 0;simp at b0;have HC:=bk (jA hs.re (by omega));clear hs hb hF kG;go_enter Tryz.func79,Tryz.ntmps79;go_wp2_with (go_at_call 109;refine HC.out.mono ?_;rintro e W1 ⟨A1,n1,c1,rfl,rY,AV,kO⟩);go_ret;refine ⟨_,W1.heap.size :: own (.slice A1 n1 c1),rfl,⟨_,ax W1 142 _,rY.stay ((av _ _).alloc _),fun k hk=>hk,fun k hk=>?_⟩,fun k hk=>?_,kO.alloc _⟩
 ·rcases List.mem_cons.1 hk with rfl | hk
  ·simp
  ·have:=rY.own_lt k hk;simp;omega
 ·rcases List.mem_cons.1 hk with rfl | hk
  ·exact kO.size
  ·exact AV k hk
end Go.Proofs.YtfoleblcaloeoaaGreatDoor.Ar
namespace Go.Proofs.YtfoleblcaloeoaaGreatDoor
open Go Go.RowKit
structure Pr where
 rl:List Ar.Rn
 pg:Int→Option (List Nat)
 ow:Int→Option (Nat × Nat)
 pk:Nat
 pm:Nat
structure Mo where
 c:Cf
 pr:Int→Option Pr
 ob:Int→Option (List Nat)
 ev:Int→Bool
def upd {α:Type} (f:Int→α) (z:Int) (v:α):Int→α:=fun y=>if y = z then v else f y
def jv:Pr:=⟨[],fun _=>none,fun _=>none,0,0⟩
def np (c:Cf):Mo:=⟨c,fun _=>none,fun _=>none,fun _=>false⟩
def bw (e:Int):Rs:=⟨e,0,[]⟩
def gi (k:Nat) (e:Int):Bool :=
 ((k == 6 || k == 8 || k == 9) && (decide (e = 6) || decide (e = 40))) || ((k == 1 || k == 10 || k == 18) && decide (e = 6))
def pids:List Int:=[1,2,3,4,5,6,7,8]
def jf (M:Mo):Rs × Option Mo :=
 match pids.find? fun p=>(M.pr p).isNone with
 | some p=>(⟨0,p.toNat,[]⟩,some { M with pr:=upd M.pr p (some jv) })
 | none=>(bw 9,none)
def jg (M:Mo) (s:Int) (v:Nat):Rs × Option Mo :=
 if v = 0∨M.ev v = true then (⟨0,18446744073709551615 - v,[]⟩,none)
 else (⟨0,v,[]⟩,some { M with ob:=upd M.ob v (some (List.replicate s.toNat 0)),ev:=upd M.ev v true })
def di (b:List Nat) (a:Nat) (l:List Nat):List Nat:=b.take a ++ l ++ b.drop (a+l.length)
def gj (M:Mo) (x:Cl):Rs × Option Mo :=
 match M.ob x.h with
 | none=>(bw 120,none)
 | some b =>
  if x.k = 11 then (bw 0,some { M with ob:=upd M.ob x.h none })
  else if (b.length:Int) < x.a+max x.s x.l.length then (bw 2,none)
  else if x.k = 12 then (⟨0,0,(b.drop x.a.toNat).take x.s.toNat⟩,none)
  else (bw 0,some { M with ob:=upd M.ob x.h (some (di b x.a.toNat x.l)) })
def inR (p c q:Int):Bool:=decide (p≤q∧q < p+c)
def db (p:Pr) (x:Cl):Int × Pr :=
 if x.k = 3 then (Ar.mapE p.rl x.g x.c x.r,{ p with rl:=Ar.mapR p.rl x.g x.c x.r })
 else if x.k = 4 then (Ar.unE p.rl x.g x.c,{ p with rl:=Ar.unR p.rl x.g x.c,pg:=fun q=>if inR x.g x.c q then none else p.pg q,ow:=fun q=>if inR x.g x.c q then none else p.ow q })
 else (Ar.prE p.rl x.g x.c x.r,{ p with rl:=Ar.prR p.rl x.g x.c x.r })
def zeroPg:List Nat:=List.replicate 256 0
def dt (p:Pr) (x:Cl):Rs × Option Pr :=
 let page:=x.a / 256
 let at_:=(x.a % 256).toNat
 let b:=(p.pg page).getD zeroPg
 if Ar.rt p.rl page = 0 then (bw 7,none)
 else if x.k = 8 then (if Ar.rt p.rl page % 2 = 0 then (bw 190,none) else (⟨0,0,(b.drop at_).take x.s.toNat⟩,none))
 else (if Ar.rt p.rl page < 2 then (bw 190,none) else (bw 0,some { p with pg:=upd p.pg page (some (di b at_ x.l)) }))
def ku (p:Pr) (q:Int):Nat × Nat:=(p.ow q).getD (p.pk,p.pm)
def dc (M:Mo) (x:Cl) (v:Nat) (p:Pr):Rs × Option Mo :=
 if x.k = 2 then (bw 0,some { M with pr:=upd M.pr x.p none })
 else if x.k = 14 then (bw 0,some { M with pr:=upd M.pr x.p (some { p with pk:=x.ok,pm:=x.om }) })
 else if x.k = 16 then (⟨0,(ku p x.g).1 * 256+(ku p x.g).2,[]⟩,none)
 else if x.k = 3∨x.k = 4∨x.k = 5 then (bw (db p x).1,some { M with pr:=upd M.pr x.p (some (db p x).2) })
 else if x.k = 8∨x.k = 9 then ((dt p x).1,(dt p x).2.map fun q=>{ M with pr:=upd M.pr x.p (some q) })
 else if Ar.mdE p.rl x.g (max x.c 1)≠0 then (bw 7,none)
 else if x.k = 17 then (⟨0,min v (M.c 0).toNat,[]⟩,none)
 else if x.k = 15 then (bw 0,some { M with pr:=upd M.pr x.p (some { p with ow:=fun q=>if inR x.g x.c q then some (x.ok,x.om) else p.ow q }) })
 else (bw 0,none)
def cj (M:Mo) (x:Cl) (v:Nat):Rs × Option Mo :=
 if x.k = 1 then jf M
 else if x.k = 10 then jg M x.s v
 else if x.k = 11∨x.k = 12∨x.k = 13 then gj M x
 else if x.k = 19∨x.k = 20∨x.k = 21 then (bw 0,none)
 else match M.pr x.p with
 | none=>(bw 7,none)
 | some p=>dc M x v p
noncomputable def jn (M:Mo) (x:Cl) (r:Rs):Bool :=
 if dr M.c x = true then ed r (bw 2)
 else if gi x.k r.e = true then ed r (bw r.e)
 else ed r (cj M x r.v).1
noncomputable def ie (M:Mo) (x:Cl) (r:Rs):Mo :=
 if dr M.c x = true∨gi x.k r.e = true∨ed r (cj M x r.v).1 = false∨r.e≠0 then M else ((cj M x r.v).2).getD M
def CP (F:Nat→Prop) (w w':World):Prop:=∃G,Chg G w w'∧∀k∈G,F k∨w.heap.size≤k
variable {w w':World} {F:Nat→Prop}
theorem CP.of {G:List Nat} (h:Chg G w w') (hG:∀k∈G,F k∨w.heap.size≤k):CP F w w':=⟨G,h,hG⟩
theorem CP.of0 (h:Chg [] w w'):CP F w w':=⟨[],h,fun _ h=>by cases h⟩
theorem CP.size {F:Nat→Prop} {w w':World} (h:CP F w w'):w.heap.size≤w'.heap.size:=by obtain ⟨G,h,_⟩:=h;exact h.size
theorem CP.trans {F G:Nat→Prop} {a b c:World} (h:CP F a b) (k:CP G b c) (hG:∀x,G x→F x∨a.heap.size≤x):CP F a c:=by
 obtain ⟨L,h1,h2⟩:=h;obtain ⟨K,k1,k2⟩:=k;refine ⟨L ++ K,(h1.mono (fun x hx=>.inl (List.mem_append_left _ hx))).trans k1 (fun x hx=>.inl (List.mem_append_right _ hx)),fun x hx=>?_⟩;rcases List.mem_append.1 hx with hx | hx
 ·exact h2 x hx
 ·rcases k2 x hx with h3 | h3
  ·exact hG x h3
  ·have:=h1.size;exact .inr (by omega)
theorem CP.avoid (h:CP F w w') (L:List Nat) (hL:∀k∈L,¬ F k) (hl:∀k∈L,k < w.heap.size):∃G,Chg G w w'∧∀k∈L,k∉G:=by obtain ⟨G,h1,h2⟩:=h;exact ⟨G,h1,fun k hk hg=>(h2 k hg).elim (hL k hk) (fun h3=>by have:=hl k hk;omega)⟩
variable {cs:Array Value}
theorem Blk.cp {g:Nat} {t:TypeId} (h:Blk w g t cs) (hc:CP F w w') (hg:¬ F g):Blk w' g t cs:=by obtain ⟨G,h1,h2⟩:=hc.avoid [g] (by simpa using hg) (by simpa using h.lt);exact h.chg h1 (h2 g (List.mem_singleton.2 rfl))
variable {f:Int→Option Value} {b:Nat}
theorem MapB.cp {k:IntKind} (h:MapB w b k f) (hc:CP F w w') (hg:¬ F b):MapB w' b k f:=by obtain ⟨G,h1,h2⟩:=hc.avoid [b] (by simpa using hg) (by simpa using h.lt);exact h.chg h1 (h2 b (List.mem_singleton.2 rfl))
variable {v:Value}
theorem SB.cp {l:List Nat} (h:SB w v l) (hc:CP F w w') (hg:∀k∈own v,¬ F k):SB w' v l:=by obtain ⟨G,h1,h2⟩:=hc.avoid (own v) hg h.own_lt;exact h.chg h1 h2
variable {d:Nat}
theorem Ar.AMem.cp {l:List Ar.Rn} {L:List Nat} (h:Ar.AMem w d l L) (hc:CP F w w') (hg:∀k∈L,¬ F k):Ar.AMem w' d l L:=by obtain ⟨G,h1,h2⟩:=hc.avoid L hg h.lt;exact h.chg h1 h2
def pgc (l:List Nat):Array Value:=(l.map fun (x:Nat)=>Value.int .u8 (x:Int)).toArray
structure PgB (w:World) (b:Nat) (l:List Nat):Prop where
 blk:Blk w b 138 (pgc l)
 len:l.length = 256
 b8:∀x∈l,x < 256
theorem PgB.cp {F:Nat→Prop} {w w':World} {b:Nat} {l:List Nat} (h:PgB w b l) (hc:CP F w w') (hg:¬ F b):PgB w' b l:=⟨h.blk.cp hc hg,h.len,h.b8⟩
def prc (d bp bo:Nat) (p:Pr):Array Value:=#[.pointer (some ⟨d,0,none⟩),.map (some bp),.map (some bo),.int .u8 p.pk,.int .u8 p.pm]
structure PIn (w:World) (b:Nat) (p:Pr) (d:Nat) (FA:List Nat) (bp bo:Nat) (fp fo:Int→Option Value) (gp:Int→Nat):Prop where
 blk:Blk w b 113 (prc d bp bo p)
 ar:Ar.AMem w d p.rl FA
 sp:Ar.Sp p.rl
 mp:MapB w bp .i64 fp
 mo:MapB w bo .i64 fo
 hp:∀n,fp n = (p.pg n).map fun _=>.pointer (some ⟨gp n,0,none⟩)
 ho:∀n,fo n = (p.ow n).map fun q=>.agg #[.int .u8 q.1,.int .u8 q.2]
 pg:∀n B,p.pg n = some B→PgB w (gp n) B
 inj:∀n n' B B',p.pg n = some B→p.pg n' = some B'→gp n = gp n'→n = n'
 ne:bp≠bo
 pk:p.pk < 256
 pm:p.pm < 256
 ow:∀n q,p.ow n = some q→q.1 < 256∧q.2 < 256
def FPr (p:Pr) (b:Nat) (FA:List Nat) (bp bo:Nat) (gp:Int→Nat) (k:Nat):Prop:=k = b∨k∈FA∨k = bp∨k = bo∨∃n B,p.pg n = some B∧k = gp n
def PMem (w:World) (b:Nat) (p:Pr) (F:Nat→Prop):Prop :=
 ∃d FA bp bo fp fo gp,PIn w b p d FA bp bo fp fo gp∧(∀k,FPr p b FA bp bo gp k→F k)∧∀k,F k→k < w.heap.size
theorem PIn.cp {G:Nat→Prop} {w w':World} {b:Nat} {p:Pr} {d:Nat} {FA:List Nat} {bp bo:Nat} {fp fo:Int→Option Value} {gp:Int→Nat} (h:PIn w b p d FA bp bo fp fo gp) (hc:CP G w w') (hg:∀k,FPr p b FA bp bo gp k→¬ G k):PIn w' b p d FA bp bo fp fo gp :=
 { blk:=h.blk.cp hc (hg _ (.inl rfl)),ar:=h.ar.cp hc (fun k hk=>hg k (.inr (.inl hk))),sp:=h.sp,mp:=h.mp.cp hc (hg _ (.inr (.inr (.inl rfl)))),mo:=h.mo.cp hc (hg _ (.inr (.inr (.inr (.inl rfl))))),hp:=h.hp,ho:=h.ho,pg:=fun n B hB=>(h.pg n B hB).cp hc (hg _ (.inr (.inr (.inr (.inr ⟨n,B,hB,rfl⟩))))),inj:=h.inj,ne:=h.ne,pk:=h.pk,pm:=h.pm,ow:=h.ow }
theorem PMem.cp {F G:Nat→Prop} {w w':World} {b:Nat} {p:Pr} (h:PMem w b p F) (hc:CP G w w') (hg:∀k,F k→¬ G k):PMem w' b p F:=by obtain ⟨d,FA,bp,bo,fp,fo,gp,h1,h2,h3⟩:=h;exact ⟨d,FA,bp,bo,fp,fo,gp,h1.cp hc (fun k hk=>hg k (h2 k hk)),h2,fun k hk=>al (h3 k hk) hc.size⟩
def mgc (c:Cf) (bp bo be:Nat):Array Value:=cg c ++ #[.map (some bp),.map (some bo),.map (some be)]
structure MIn (w:World) (m:Nat) (M:Mo) (bp bo be:Nat) (fp fo fe:Int→Option Value) (gb:Int→Nat) (GF:Int→Nat→Prop) (ov:Int→Value):Prop where
 blk:Blk w m 62 (mgc M.c bp bo be)
 mp:MapB w bp .i64 fp
 mo:MapB w bo .u64 fo
 me:MapB w be .u64 fe
 hp:∀n,fp n = (M.pr n).map fun _=>.pointer (some ⟨gb n,0,none⟩)
 pr:∀n p,M.pr n = some p→PMem w (gb n) p (GF n)
 ap:∀n n' p p',M.pr n = some p→M.pr n' = some p'→n≠n'→∀k,GF n k→¬ GF n' k
 rng:∀n p,M.pr n = some p→1≤n∧n≤8
 ho:∀h,fo h = (M.ob h).map fun _=>ov h
 ob:∀h B,M.ob h = some B→SB w (ov h) B∧(∀x∈B,x < 256)∧B.length≤128
 oa:∀h h' B B',M.ob h = some B→M.ob h' = some B'→h≠h'→∀k∈own (ov h),k∉own (ov h')
 he:∀h,fe h = if M.ev h then some (.bool true) else none
 d1:bp≠bo
 d2:bp≠be
 d3:bo≠be
 dm:∀n p,M.pr n = some p→∀k,GF n k→k≠m∧k≠bp∧k≠bo∧k≠be∧∀h B,M.ob h = some B→k∉own (ov h)
def FMo (M:Mo) (m bp bo be:Nat) (GF:Int→Nat→Prop) (ov:Int→Value) (k:Nat):Prop :=
 k = m∨k = bp∨k = bo∨k = be∨(∃n p,M.pr n = some p∧GF n k)∨∃h B,M.ob h = some B∧k∈own (ov h)
def MMem (w:World) (m:Nat) (M:Mo) (O:Nat→Prop):Prop :=
 ∃bp bo be fp fo fe gb GF ov,MIn w m M bp bo be fp fo fe gb GF ov∧(∀k,FMo M m bp bo be GF ov k→O k)∧∀k,O k→k < w.heap.size
theorem MIn.cp {G:Nat→Prop} {w w':World} {m:Nat} {M:Mo} {bp bo be:Nat} {fp fo fe:Int→Option Value} {gb:Int→Nat} {GF:Int→Nat→Prop} {ov:Int→Value} (h:MIn w m M bp bo be fp fo fe gb GF ov) (hc:CP G w w') (hg:∀k,FMo M m bp bo be GF ov k→¬ G k):MIn w' m M bp bo be fp fo fe gb GF ov :=
 { blk:=h.blk.cp hc (hg _ (.inl rfl)),mp:=h.mp.cp hc (hg _ (.inr (.inl rfl))),mo:=h.mo.cp hc (hg _ (.inr (.inr (.inl rfl)))),me:=h.me.cp hc (hg _ (.inr (.inr (.inr (.inl rfl))))),hp:=h.hp,pr:=fun n p hp=>(h.pr n p hp).cp hc (fun k hk=>hg k (.inr (.inr (.inr (.inr (.inl ⟨n,p,hp,hk⟩)))))),ap:=h.ap,rng:=h.rng,ho:=h.ho,ob:=fun z B hB=>⟨SB.cp (h.ob z B hB).1 hc (fun k hk=>hg k (.inr (.inr (.inr (.inr (.inr ⟨z,B,hB,hk⟩)))))),(h.ob z B hB).2⟩,oa:=h.oa,he:=h.he,d1:=h.d1,d2:=h.d2,d3:=h.d3,dm:=h.dm }
theorem MMem.cp {O G:Nat→Prop} {w w':World} {m:Nat} {M:Mo} (h:MMem w m M O) (hc:CP G w w') (hg:∀k,O k→¬ G k):MMem w' m M O:=by obtain ⟨bp,bo,be,fp,fo,fe,gb,GF,ov,h1,h2,h3⟩:=h;exact ⟨bp,bo,be,fp,fo,fe,gb,GF,ov,h1.cp hc (fun k hk=>hg k (h2 k hk)),h2,fun k hk=>al (h3 k hk) hc.size⟩
variable {M:Mo} {m:Nat} {O:Nat→Prop}
theorem MMem.stay (h:MMem w m M O) (hc:Chg [] w w'):MMem w' m M O:=h.cp (CP.of0 (F:=fun _=>False) hc) (fun _ _ h=>h)
theorem MMem.lt (h:MMem w m M O):∀k,O k→k < w.heap.size:=by obtain ⟨bp,bo,be,fp,fo,fe,gb,GF,ov,h1,h2,h3⟩:=h;exact h3
theorem mgc_lo (c:Cf) (bp bo be:Nat) {i:Nat} (h:i < 94):(mgc c bp bo be)[i]? = some (.int .i64 (c i)):=by unfold mgc;rw [Array.getElem?_append_left (by rw [ga];exact h)];exact je c h
theorem fC (c:Cf) (bp bo be:Nat):(mgc c bp bo be)[94]? = some (.map (some bp))∧(mgc c bp bo be)[95]? = some (.map (some bo))∧(mgc c bp bo be)[96]? = some (.map (some be)):=by unfold mgc;refine ⟨?_,?_,?_⟩ <;> rw [Array.getElem?_append_right (by rw [ga];omega),ga] <;> rfl
variable {c:Cf} {bp bo be:Nat}
theorem eq (h:Blk w m 62 (mgc c bp bo be)) :
  w.cell? ⟨m,94,none⟩ = some (.map (some bp))∧w.cell? ⟨m,95,none⟩ = some (.map (some bo))∧w.cell? ⟨m,96,none⟩ = some (.map (some be))∧m < w.heap.size∧w.cell? ⟨m,0,none⟩ = some (.int .i64 (c 0)) :=
 ⟨(h.cell 94).trans (fC c bp bo be).1,(h.cell 95).trans (fC c bp bo be).2.1,(h.cell 96).trans (fC c bp bo be).2.2,h.lt,(h.cell 0).trans (mgc_lo c bp bo be (by omega))⟩
theorem aI (h:Blk w m 62 (mgc c bp bo be)):(loadVar 26 ⟨m,0,none⟩).run Tryz.prog w = .ok (.agg (cg c)) w:=by
 have hr:w.rangeAt m 0 (cg c).toList:=by
  have:=World.rangeAt_of_block (C:=mgc c bp bo be) h 0 94;have e:((mgc c bp bo be).extract 0 (0+94)).toList = (cg c).toList:=by unfold mgc;rw [show (0+94) = (cg c).size by rw [ga],Array.extract_append_left];simp
  rwa [e] at this
 have:=run_loadVar_mid (P:=Tryz.prog) w m 0 26 (cg c).toList _ hr Tryz.underlying26 rfl (by rw [Array.length_toList];exact nj);simpa using this
theorem eqM1 (b:Nat) (w:World):(binOp .eql 58 (.map (some b)) (.map none)).run Tryz.prog w = .ok (.bool false) w:=by kernel_rfl
theorem tw (h:Blk w m 62 (mgc c bp bo be)) :
  Calls Tryz.prog 27 #[.pointer (some ⟨m,0,none⟩)] w fun e w'=>e = .returned (.bool false)∧w = w':=by
 obtain ⟨q0,-,-,ql,-⟩:=eq h;have hem:=eqM1 bp;clear h;go_enter Tryz.func27,Tryz.ntmps27;go_wp2_with fail;go_ret;exact ⟨rfl,rfl⟩
structure BR (l:List (Nat × Value)) (r:Rs) (v:Value):Prop where
 h:Tryz.prog.built 40 l = some (rsc r v)
variable {Q:Exit→Act→World→Prop} {a:Act} {o:Oper} {rest:List Oper} {ops:Array Oper}
theorem cz {r:Rs} (hg:o.guard = none) (parts:Array (Nat × Operand)) (ho:o.op = .build 40 parts)
  {l:List (Nat × Value)} (hb:BR l r v) (hl:(parts.map fun (i,x)=>(i,a.eval x)).toList = l) (h:wpList Tryz.prog ops Q rest (a.put o.dst (.agg (rsc r v))) w):wpList Tryz.prog ops Q (o :: rest) a w :=
 wpList_build hg 40 parts ho (by rw [hl,hb.h];rfl) (by rw [hl,hb.h];exact h)
theorem cm {r:Rs} (parts:Array (Nat × Operand)) (ho:o.op = .build 40 parts)
  {l:List (Nat × Value)} (hw:Region.wanted o (yielded ops a.tmps) = true) (hb:BR l r v) (hl:(parts.map fun (i,x)=>(i,a.eval x)).toList = l) (h:wpList Tryz.prog ops Q rest (a.put o.dst (.agg (rsc r v))) w):wpList Tryz.prog ops Q (o :: rest) a w :=
 wpList_step fun K U=>by
  rw [ah hw]
  exact wp_build 40 parts ho (by rw [hl,hb.h];rfl) (U _ _ (by rw [hl,hb.h];exact h))
theorem br_e (e:Int):BR [(0,.int .i64 e)] (bw e) zV:=⟨by kernel_rfl⟩
theorem br_v (v:Nat):BR [(1,.int .u64 v)] ⟨0,v,[]⟩ zV:=⟨by kernel_rfl⟩
theorem br_0:BR [] (bw 0) zV:=⟨by kernel_rfl⟩
theorem br_l (A:Option Addr) (n c:Nat) (l:List Nat):BR [(2,.slice A n c)] ⟨0,0,l⟩ (.slice A n c):=⟨by kernel_rfl⟩
theorem wo {W:World} {o:Obj} (hc:Chg [W.heap.size] (W.alloc o) w'):Chg [] W w' :=
 ((av [] W).alloc _).trans hc (fun y hy=>.inr (by obtain rfl:=aa hy;exact Nat.le_refl _))
theorem li (e:Int) (w:World):Calls Tryz.prog 30 #[.int .i64 e] w fun e' w'=>e' = .returned (.agg (rsc (bw e) zV))∧Chg [] w w':=by have HB:=bk (br_e e);go_enter Tryz.func30,Tryz.ntmps30;go_wp2_with (first|refine ck rfl rfl ?_;try go_simp|refine cz rfl _ rfl HB.out ?_ ?_;(focus (simp [Act.eval];done))|refine bu (b:=w.heap.size) (y:=bw e) (u:=zV) rfl _ _ rfl rfl rfl rfl (ax w _ _) ?_;intro W4 h4 kZ);refine bodyPost_ret (v:=.agg (rsc (bw e) zV)) (results_cell_row (p:=2) (ty:=40) rfl _ _ w.heap.size 40 _ (0,0) _ rfl h4 Tryz.underlying40 rfl dq) rfl ⟨rfl,wo kZ⟩
theorem free_any (k:Nat) (e:Int) (w:World):Calls Tryz.prog 31 #[.int .u8 k,.int .i64 e] w fun e' w'=>e' = .returned (.bool (gi k e))∧w = w':=by
 obtain ⟨R,hR⟩:∃R,R = gi k e:=⟨_,rfl⟩;rw [← hR];unfold gi at hR;obtain ⟨k0,oK⟩:∃z:Int,z = (k:Int):=⟨_,rfl⟩;rw [← oK];have e6:(k == 6) = (k0 == 6):=by rw [oK,Bool.eq_iff_iff];simp;omega
 have e8:(k == 8) = (k0 == 8):=by rw [oK,Bool.eq_iff_iff];simp;omega
 have e9:(k == 9) = (k0 == 9):=by rw [oK,Bool.eq_iff_iff];simp;omega
 have e1:(k == 1) = (k0 == 1):=by rw [oK,Bool.eq_iff_iff];simp;omega
 have e10:(k == 10) = (k0 == 10):=by rw [oK,Bool.eq_iff_iff];simp;omega
 have e18:(k == 18) = (k0 == 18):=by rw [oK,Bool.eq_iff_iff];simp;omega
 rw [e6,e8,e9,e1,e10,e18] at hR;have HR:=bk hR;clear e6 e8 e9 e1 e10 e18 oK hR;by_cases h6:k0 = 6∨k0 = 8∨k0 = 9
 ·by_cases he:e = 6
  ·subst he;rcases h6 with rfl | rfl | rfl
   all_goals
    go_enter Tryz.func31,Tryz.ntmps31
    go_wp2_with fail
    go_ret
    exact ⟨by rw [HR.out];rfl,rfl⟩
  ·have d1:(e == 6) = false:=aj he;have HE:=bk he;clear he;rcases h6 with rfl | rfl | rfl
   all_goals
    go_enter Tryz.func31,Tryz.ntmps31
    go_wp2_with fail
    go_ret
    exact ⟨by rw [HR.out,ac HE.out];simp;rw [Bool.eq_iff_iff];simp,rfl⟩
 ·have f1:(k0 == 6) = false:=aj (fun h=>h6 (.inl h));have f2:(k0 == 8) = false:=aj (fun h=>h6 (.inr (.inl h)));have f3:(k0 == 9) = false:=aj (fun h=>h6 (.inr (.inr h)));have HF:=bk (ai f1 (ai f2 f3));clear h6;by_cases h1:k0 = 1∨k0 = 10∨k0 = 18
  ·rcases h1 with rfl | rfl | rfl
   all_goals
    clear f1 f2 f3
    go_enter Tryz.func31,Tryz.ntmps31
    go_wp2_with fail
    go_ret
    exact ⟨by rw [HR.out];simp;rw [Bool.eq_iff_iff];simp,rfl⟩
  ·have g1:(k0 == 1) = false:=aj (fun h=>h1 (.inl h));have g2:(k0 == 10) = false:=aj (fun h=>h1 (.inr (.inl h)));have g3:(k0 == 18) = false:=aj (fun h=>h1 (.inr (.inr h)));have HG:=bk (ai g1 (ai g2 g3));clear h1;go_enter Tryz.func31,Tryz.ntmps31;go_wp2_with fail;go_ret;exact ⟨by rw [HR.out,HF.out.1,HF.out.2.1,HF.out.2.2,HG.out.1,HG.out.2.1,HG.out.2.2];rfl,rfl⟩
structure BM (l:List (Nat × Value)) (c:Cf) (bp bo be:Nat):Prop where
 h:Tryz.prog.built 62 l = some (mgc c bp bo be)
theorem bm_new (c:Cf) (bp bo be:Nat):BM [(0,.agg (cg c)),(1,.map (some bp)),(2,.map (some bo)),(3,.map (some be))] c bp bo be:=⟨by kernel_rfl⟩
theorem yq (hg:o.guard = none) (parts:Array (Nat × Operand)) (ho:o.op = .build 62 parts)
  {l:List (Nat × Value)} (hb:BM l c bp bo be) (hl:(parts.map fun (i,x)=>(i,a.eval x)).toList = l) (h:wpList Tryz.prog ops Q rest (a.put o.dst (.agg (mgc c bp bo be))) w):wpList Tryz.prog ops Q (o :: rest) a w :=
 wpList_build hg 62 parts ho (by rw [hl,hb.h];rfl) (by rw [hl,hb.h];exact h)
theorem cC (hg:o.guard = none) (z:Operand) (ho:o.op = .box 62 z) (hx:a.eval z = .agg cs)
  (h:wpList Tryz.prog ops Q rest (a.put o.dst (.pointer (some ⟨w.heap.size,0,none⟩))) (w.alloc (.cells cs 62))):wpList Tryz.prog ops Q (o :: rest) a w :=
 Great.wpList_runTo hg _ rfl _ _ (by unfold execOp;simp only [ho,hx,Sem.run_bind,Instr.box,newVar,newRow,run_newObj_alloc,Sem.run_pure,Result.andThen_ok,Value.cells]) h
theorem gS (hc:mayB c = true) :
  Calls Tryz.prog 8 #[.agg (cg c)] w fun e w'=>(∃m,e = .returned (.tuple #[.pointer (some ⟨m,0,none⟩),.int .i64 0])∧∃O,MMem w' m (np c) O∧∀k,O k→w.heap.size≤k)∧Chg [] w w':=by
 obtain ⟨W2,kJ⟩:∃W2,W2 = w.alloc (.cells (cg c) 26):=⟨_,rfl⟩;have hb:CB W2 w.heap.size c:=by rw [kJ];exact ax w 26 _
 have HB:=bk hb;have HC:=bk (show Chg [] w W2 by rw [kJ];exact (av [] w).alloc _);have kW:=bk kJ;have HM:=bk (fun W=>wi c W);rw [hc] at HM;clear hb kJ hc;go_enter Tryz.func8,Tryz.ntmps8;go_wp2_with (first|refine da rfl _ rfl rfl ?_;try rw [← kW.out]|refine dd (b:=w.heap.size) (c:=c) rfl _ rfl rfl ?_ ?_;(focus exact HB.out));refine (HM.out _).mono ?_;rintro e W3 ⟨rfl,kM⟩;have kL:=bk (HC.out.stay kM);have lI:=bk (aw HB.out kM ab);clear kM HB;have sW:∀(t:TypeId) (W:World),(Instr.makeMap t none).run Tryz.prog W = .ok (.map (some W.heap.size)) (W.alloc (.map #[] 0)):=fun t W=>run_makeMap t W;have xU:=bk (bm_new c W3.heap.size (W3.heap.size+1) (W3.heap.size+1+1));go_wp2_with (first|refine dd (b:=w.heap.size) (c:=c) rfl _ rfl rfl ?_ ?_;(focus exact lI.out)|refine yq rfl _ rfl xU.out ?_ ?_;(focus (simp [Act.eval];done))|refine cC rfl _ rfl rfl ?_);have hs:=kL.out.size;have tA:∃O,MMem ((((W3.alloc (Obj.map #[] 0)).alloc (Obj.map #[] 0)).alloc (Obj.map #[] 0)).alloc (Obj.cells (mgc c W3.heap.size (W3.heap.size+1) (W3.heap.size+1+1)) 62)) (W3.heap.size+1+1+1) (np c) O∧∀k,O k→w.heap.size≤k:=by
  have h0:=MapB.new W3 .i64;have h1:=MapB.new (W3.alloc (.map #[] 0)) .u64;have h2:=MapB.new ((W3.alloc (.map #[] 0)).alloc (.map #[] 0)) .u64;have h3:=ax (((W3.alloc (.map #[] 0)).alloc (.map #[] 0)).alloc (.map #[] 0)) 62 (mgc c W3.heap.size (W3.heap.size+1) (W3.heap.size+1+1));simp only [af] at h0 h1 h2 h3;refine ⟨fun k=>W3.heap.size≤k∧k < W3.heap.size+4,⟨_,_,_,_,_,_,fun _=>0,fun _ _=>False,fun _=>.slice none 0 0,⟨h3,h0.stay ((((av [] _).alloc _).alloc _).alloc _),h1.stay (((av [] _).alloc _).alloc _),h2.stay ((av [] _).alloc _),fun _=>rfl,?_,?_,?_,fun _=>rfl,?_,?_,fun _=>rfl,?_,?_,?_,?_⟩,?_,?_⟩,fun k hk=>?_⟩
  ·intro n p hp;cases hp
  ·intro n n' p p' hp;cases hp
  ·intro n p hp;cases hp
  ·intro n p hp;cases hp
  ·intro n n' p p' hp;cases hp
  ·omega
  ·omega
  ·omega
  ·intro n p hp;cases hp
  ·intro k hk;rcases hk with h | h | h | h | ⟨n,p,h,_⟩ | ⟨n,p,h,_⟩
   ·show _≤_∧_;omega
   ·show _≤_∧_;omega
   ·show _≤_∧_;omega
   ·show _≤_∧_;omega
   ·cases h
   ·cases h
  ·intro k hk;simp only [af];have:W3.heap.size≤k∧k < W3.heap.size+4:=hk;omega
  ·have:W3.heap.size≤k∧k < W3.heap.size+4:=hk;omega
 go_ret2;exact ⟨⟨_,rfl,tA⟩,(((kL.out.alloc _).alloc _).alloc _).alloc _⟩
def Off (w:World) (O:Nat→Prop) (X F:List Nat):Prop:=∀j∈F,j < w.heap.size∧¬ O j∧j∉X
variable {k:Nat} {X:List Nat}
theorem Off.new {F:List Nat} (h:Off w O X F) (hk:w.heap.size≤k):k∉F:=fun hm=>Nat.not_lt.2 hk (h k hm).1
theorem Off.out {F:List Nat} (h:Off w O X F) (hk:k∈X):k∉F:=fun hm=>(h k hm).2.2 hk
theorem Off.cp {a b c:World} {F:List Nat} (h:Off w O X F) (hc:Chg [] a b) (hd:Chg F b c):CP (fun k=>¬ O k) a c :=
 CP.of ((hc.up F).and_ hd) (fun k hk=>.inl (h k hk).2.1)
theorem Off.nil (w:World) (O:Nat→Prop) (X:List Nat):Off w O X []:=fun _ h=>by cases h
theorem MMem.off {W:World} (h:MMem w m M O) (hc:CP (fun k=>¬ O k) w W):MMem W m M O:=h.cp hc (fun _ h h'=>h' h)
def Ent (k:FuncId):Prop:=∀(a:Array Value) (W:World),(callFunc k a).run Tryz.prog W = .ok (.enter k a) W
variable {fn:Func}
theorem pn {k:FuncId} (hf:Tryz.prog.funcs[k]? = some fn) (h1:(fn.name == "runtime.NumGoroutine") = false) (h2:fn.body.isNone = false):Ent k:=fun a W=>by
 have h3:¬ fn.name = "runtime.NumGoroutine":=by simpa using h1
 have h4:¬ fn.body = none:=fun h=>by rw [h] at h2;cases h2
 unfold callFunc
 simp [Sem.run_bind,program,Sem.run,hf,h3,h4,Result.andThen]
def Eff (w w':World) (m:Nat) (O:Nat→Prop) (X:List Nat) (f:Value) (N:Option Mo):Prop :=
 match N with
 | none=>f = .nilFunc
 | some M'=>∃k caps,f = .func (.func k) #[] caps∧Ent k∧∀F W,Off w O X F→Chg F w' W→Calls Tryz.prog k caps W fun e W'=>e = .returned (.tuple #[])∧CP (fun k=>O k∨w.heap.size≤k) W W'∧∃O',MMem W' m M' O'∧∀k,O' k→O k∨w.heap.size≤k
theorem CP.or {G:Nat→Prop} (h:CP F w w'):CP (fun k=>F k∨G k) w w':=by obtain ⟨L,h1,h2⟩:=h;exact ⟨L,h1,fun k hk=>(h2 k hk).imp .inl id⟩
def AnsR (w w':World) (m:Nat) (O:Nat→Prop) (X:List Nat) (R:Rs × Option Mo) (e:Ending):Prop :=
 ∃A n c f,e = .returned (.tuple #[.agg (rsc R.1 (.slice A n c)),f])∧RB w' (.slice A n c) R.1.l∧(∀k∈own (.slice A n c),O k∨w.heap.size≤k)∧Eff w w' m O X f R.2
variable {R:Rs × Option Mo}
theorem AnsR.put {Wc W':World} {e:Ending} (h:AnsR Wc W' m O X R e) (hs:w.heap.size≤Wc.heap.size) (hb:w.heap.size≤b) (lV:b < Wc.heap.size) (hO:¬ O b) (hX:b∉X) :
  ∃A n c f,e = .returned (.tuple #[.agg (rsc R.1 (.slice A n c)),f])∧∀W7,Chg [b] W' W7→AnsR w W7 m O X R (.returned (.tuple #[.agg (rsc R.1 (.slice A n c)),f])):=by
 obtain ⟨R1,N⟩:=R;obtain ⟨A,n,c,f,rfl,h1,h2,h3⟩:=h;refine ⟨A,n,c,f,rfl,fun W7 hc=>⟨A,n,c,f,rfl,h1.chg hc (fun k hk rU=>?_),fun k hk=>(h2 k hk).imp id (au hs),?_⟩⟩
 ·obtain rfl:=aa rU;rcases h2 k hk with h | h
  ·exact hO h
  ·omega
 ·unfold Eff at h3 ⊢;cases N with
  | none=>exact h3
  | some M' =>
   obtain ⟨k,caps,hf,he,h4⟩:=h3;refine ⟨k,caps,hf,he,fun F W hF hW=>(h4 (b :: F) W (fun j hj=>?_) ((hc.mono (fun y hy=>.inl (by obtain rfl:=aa hy;exact List.mem_cons_self ..))).trans hW (fun y hy=>.inl (List.mem_cons_of_mem _ hy)))).mono ?_⟩
   ·rcases List.mem_cons.1 hj with rfl | hj
    ·exact ⟨lV,hO,hX⟩
    ·have:=hF j hj;exact ⟨by omega,this.2⟩
   ·rintro e' W2 ⟨rfl,⟨L,g1,g2⟩,O',k2,k3⟩;exact ⟨rfl,⟨L,g1,fun k hk=>(g2 k hk).imp (fun h=>h.imp id (au hs)) id⟩,O',k2,fun k hk=>(k3 k hk).imp id (au hs)⟩
theorem AnsR.plain {W7:World} {R:Rs} (h:R.l = []):AnsR w W7 m O X (R,none) (.returned (.tuple #[.agg (rsc R zV),.nilFunc])):=by refine ⟨none,0,0,.nilFunc,rfl,?_,(fun _ h=>(cw h).elim),rfl⟩;show RB W7 (.slice none 0 0) R.l;rw [h];exact RE.nil _ _ _ _ _
theorem ci {p q:Tmp} {x:Rs} (h:fn.results = #[.cell p 40,.tmp q]) (tmps:Array Value) (hp:tmps.getD p undef = .pointer (some ⟨b,0,none⟩)) (hb:XB w b x v) :
  (results fn tmps).run Tryz.prog w = .ok (.tuple #[.agg (rsc x v),tmps.getD q undef]) w:=by
 have oP:tmps[p]?.getD undef = .pointer (some ⟨b,0,none⟩):=by simpa using hp
 have hl:=run_loadVar_row w b 40 40 _ (0,0) _ hb Tryz.underlying40 rfl dq;simp [results,h,oP,asAddr,hl]
theorem zero72:∀w,(zeroValue 103).run Tryz.prog w = .ok (.pointer none) w:=by
 have h:(Tryz.prog.info? 103).map (fun i=>(i.zero,i.size)) = some (some (.pointer none),1):=by kernel_rfl
 exact (zero_of_info h).1
variable {GF:Int→Nat→Prop}
theorem sd {fp fo fe:Int→Option Value} {gb:Int→Nat} {ov:Int→Value} (h:MIn w m M bp bo be fp fo fe gb GF ov) (z:Int) :
  (Instr.lookup 58 (.map (some bp)) (.int .i64 z) false).run Tryz.prog w = .ok (match M.pr z with | some _=>.pointer (some ⟨gb z,0,none⟩) | none=>.pointer none) w:=by
 cases hp:M.pr z with
 | none=>exact fg Tryz.underlying58 Tryz.underlying3 h.mp (by rw [h.hp,hp];rfl) (zero72 w) false
 | some p=>exact fh Tryz.underlying58 Tryz.underlying3 h.mp (by rw [h.hp,hp];rfl) false
structure BP (l:List (Nat × Value)) (d bp bo:Nat) (p:Pr):Prop where
 h:Tryz.prog.built 113 l = some (prc d bp bo p)
theorem us (d bp bo:Nat):BP [(0,.pointer (some ⟨d,0,none⟩)),(1,.map (some bp)),(2,.map (some bo))] d bp bo jv:=⟨by kernel_rfl⟩
variable {K:Act→World→Prop}
theorem ls {p:Pr} (parts:Array (Nat × Operand)) (ho:o.op = .build 113 parts)
  {l:List (Nat × Value)} (hb:BP l d bp bo p) (hl:(parts.map fun (i,x)=>(i,a.eval x)).toList = l) (h:K (a.put o.dst (.agg (prc d bp bo p))) w):o.wp Tryz.prog a w K Q :=
 wp_build 113 parts ho (by rw [hl,hb.h];rfl) (by rw [hl,hb.h];exact h)
theorem oz (z:Operand) (ho:o.op = .box 113 z) (hx:a.eval z = .agg cs)
  (h:K (a.put o.dst (.pointer (some ⟨w.heap.size,0,none⟩))) (w.alloc (.cells cs 113))):o.wp Tryz.prog a w K Q:=by
 unfold Oper.wp execOp;simp only [ho,hx,Sem.run_bind,Instr.box,newVar,newRow,run_newObj_alloc,Sem.run_pure,Result.andThen_ok,Value.cells];exact h
theorem ir {t kt et:TypeId} {q k:IntKind} (x y z:Operand) (ho:o.op = .mapUpdate t x y z)
  (ht:Tryz.prog.underlying t = some (.map kt et)) (hk:Tryz.prog.underlying kt = some (.int q)) {key:Int} {val:Value} (hx:a.eval x = .map (some b)) (hy:a.eval y = .int k key) (hz:a.eval z = val) (h:MapB w b k f)
  (U:∀w',MapB w' b k (fun y=>if y = key then some val else f y)→Chg [b] w w'→K (a.put o.dst undef) w'):o.wp Tryz.prog a w K Q:=by
 obtain ⟨w',h1,h2,h3⟩:=yd ht hk h key val;unfold Oper.wp execOp;simp only [ho,hx,hy,hz,Sem.run_bind,h1,Sem.run_pure,Result.andThen_ok];exact U w' h2 h3
variable {x:Cl}
theorem gz (h:dr c x = false):mayB c = true∧mg x = true∧t1K x = false∧t2K x = false∧t3K x = false∧t4K c x = false∧t5K c x = false∧t6K x = false∧t7K x = false∧t8K x = false:=by unfold dr at h;simp only [Bool.or_eq_false_iff,Bool.not_eq_false'] at h;exact ⟨h.1.1,h.1.2,h.2.1,h.2.2.1,h.2.2.2.1,h.2.2.2.2.1,h.2.2.2.2.2.1,h.2.2.2.2.2.2.1,h.2.2.2.2.2.2.2.1,h.2.2.2.2.2.2.2.2⟩
theorem stF_l (x y:Cl) {f:Nat} (h:f≠98):(kx x y f).l = y.l:=by unfold kx;(repeat' split) <;> first | rfl | exact absurd (by assumption) h
theorem fold_l (x:Cl):∀(F:List Nat) (y:Cl),(∀f∈F,f≠98)→(F.foldl (kx x) y).l = y.l
 | [],_,_=>rfl
 | f :: F,y,h=>by
  rw [List.foldl_cons,fold_l x F _ (fun g hg=>h g (List.mem_cons_of_mem _ hg)),stF_l x y (h f (List.mem_cons_self ..))]
theorem stF_s (x y:Cl) {f:Nat} (h:f≠115):(kx x y f).s = y.s:=by unfold kx;(repeat' split) <;> first | rfl | exact absurd (by assumption) h
theorem fold_s (x:Cl):∀(F:List Nat) (y:Cl),(∀f∈F,f≠115)→(F.foldl (kx x) y).s = y.s
 | [],_,_=>rfl
 | f :: F,y,h=>by
  rw [List.foldl_cons,fold_s x F _ (fun g hg=>h g (List.mem_cons_of_mem _ hg)),stF_s x y (h f (List.mem_cons_self ..))]
theorem xm (h:mg x = true):dx x (jz x) = true:=by unfold mg at h;simp only [Bool.and_eq_true] at h;exact h.1.2
theorem may_l (h:mg x = true) (hb:hasB x 98 = false):x.l = []:=by
 have h1:=xm h;unfold dx at h1;simp only [Bool.and_eq_true,decide_eq_true_eq] at h1;rw [h1.2];unfold jz il;rw [fold_l x _ _ (fun f hf e=>by
  unfold hasB at hb
  have:(fld x.k).contains 98 = true:=by rw [List.contains_iff_mem];exact e ▸ hf
  rw [hb] at this;cases this)]
 rfl
theorem may_s (h:mg x = true) (hb:hasB x 115 = false):x.s = 0:=by
 have h1:=xm h;unfold dx at h1;simp only [Bool.and_eq_true,beq_iff_eq] at h1;rw [h1.1.1.1.1.1.2];unfold jz il;rw [fold_s x _ _ (fun f hf e=>by
  unfold hasB at hb
  have:(fld x.k).contains 115 = true:=by rw [List.contains_iff_mem];exact e ▸ hf
  rw [hb] at this;cases this)]
 rfl
theorem gw {f:Nat} (hk:x.k = k):hasB x f = (fld k).contains f:=by unfold hasB;rw [hk]
theorem iG (h:dr c x = false):1≤x.k∧x.k≤21:=by
 have h1:=(gz h).2.1;unfold mg at h1;simp only [Bool.and_eq_true] at h1;refine ⟨?_,?_⟩
 ·refine Classical.byContradiction fun h2=>?_;have:x.k = 0:=by omega
  rw [this] at h1;simp [fld] at h1
 ·refine Classical.byContradiction fun h2=>?_;rw [sc (show 22≤x.k by omega)] at h1;simp at h1
theorem rh (h:dr c x = false) (hc:hasB x 99 = true):1≤x.c∧x.c≤1024∧0≤x.g∧x.g≤1024 - x.c:=by have h1:=(gz h).2.2.1;unfold t1K at h1;rw [hc] at h1;simp at h1;omega
theorem nw_page (h:dr c x = false) (hc:hasB x 103 = true):0≤x.g∧x.g≤1023:=by have h1:=(gz h).2.2.2.1;unfold t2K at h1;rw [hc] at h1;simp at h1;omega
theorem nw_right (h:dr c x = false) (hc:hasB x 114 = true):1≤x.r∧x.r≤3:=by have h1:=(gz h).2.2.2.2.1;unfold t3K at h1;rw [hc] at h1;simp at h1;omega
theorem aJ (h:dr c x = false) (hk:x.k = 10):1≤x.s∧x.s≤128:=by have h1:=(gz h).2.2.2.2.2.2.2.2.2;unfold t8K at h1;rw [hk] at h1;simp at h1;omega
theorem iH (h:dr c x = false) (hk:x.k = 8):0≤x.a∧x.a < 262144∧1≤x.s∧x.a % 256+x.s≤256:=by have h1:=(gz h).2.2.2.2.2.2.2.2.1;unfold t7K kd accB at h1;rw [gw (f:=97) hk,gw (f:=112) hk,gw (f:=98) hk] at h1;simp [fld] at h1;obtain ⟨h0,h2⟩:=h1;rw [Int.tmod_eq_emod_of_nonneg h0.2.1] at h2;omega
theorem dC (h:dr c x = false) (hk:x.k = 9):0≤x.a∧x.a < 262144∧1≤x.l.length∧x.a % 256+x.l.length≤256:=by have h1:=(gz h).2.2.2.2.2.2.2.2.1;unfold t7K kd accB at h1;rw [gw (f:=97) hk,gw (f:=112) hk,gw (f:=98) hk] at h1;simp [fld] at h1;obtain ⟨h0,h2⟩:=h1;rw [Int.tmod_eq_emod_of_nonneg h0.2.1] at h2;omega
theorem iI (h:dr c x = false) (hk:x.k = 12):0≤x.a∧x.a≤128∧x.l = []∧1≤x.s∧x.s≤128:=by have h0:=may_l (gz h).2.1 (by rw [gw hk];rfl);have h1:=(gz h).2.2.2.2.2.2.2.1;unfold t6K kd accB at h1;rw [gw (f:=97) hk,gw (f:=104) hk,gw (f:=98) hk] at h1;simp [fld] at h1;exact ⟨by omega,by omega,h0,by omega,by omega⟩
theorem bH (h:dr c x = false) (hk:x.k = 13):0≤x.a∧x.a≤128∧x.s = 0∧1≤x.l.length∧x.l.length≤128:=by have h0:=may_s (gz h).2.1 (by rw [gw hk];rfl);have h1:=(gz h).2.2.2.2.2.2.2.1;unfold t6K kd accB at h1;rw [gw (f:=97) hk,gw (f:=104) hk,gw (f:=98) hk] at h1;simp [fld] at h1;exact ⟨by omega,by omega,h0,by omega,by omega⟩
theorem rhas_any (hm:m < 256) (k:Int) (w:World):Calls Tryz.prog 105 #[.int .u8 m,.int .i64 k] w fun e w'=>e = .returned (.bool (xj m k))∧w = w':=by
 by_cases h0:k < 0
 ·have hr:xj m k = false:=ac (by omega);rw [hr];have d1:decide (k < 0) = true:=ae h0;go_enter Tryz.func105,Tryz.ntmps105;go_wp2_with fail;go_ret;exact ⟨rfl,rfl⟩
 ·have d1:decide (k < 0) = false:=ac h0;by_cases h8:7 < k
  ·have hr:xj m k = false:=ac (by omega);rw [hr];have d2:decide (7 < k) = true:=ae h8;go_enter Tryz.func105,Tryz.ntmps105;go_wp2_with fail;go_ret;exact ⟨rfl,rfl⟩
  ·obtain ⟨v,rfl⟩:∃v:Nat,k = v:=⟨k.toNat,by omega⟩;have d2:decide (7 < (v:Int)) = false:=ac h8;have hv:v < 8:=(by omega);obtain ⟨r,hr⟩:∃r,r = xj m v:=⟨_,rfl⟩;rw [← hr];have HR:=bk hr;clear hr;have hm':(m:Int) < 256:=(by omega);go_enter Tryz.func105,Tryz.ntmps105;go_wp2_with fail;go_loopw [5,6] (fun x i wr=>wr = w∧∃(j y:Nat),j≤v∧y < 256∧x = .int .i64 y∧i = .int .i64 j∧Hid (y = m / 2 ^ j)) (fun _ i _=>v - (intOf i).toNat)
   case atStart=>exact ⟨rfl,0,m,by omega,hm,rfl,rfl,bk (by simp)⟩
   case round =>
    obtain ⟨rfl,j,y,hj,hy,rfl,rfl,HY⟩:=hrel;by_cases hjv:j < v
    ·have j1:(j:Int)≤8:=(by omega);have y1:(0:Int)≤(y:Int):=(by omega);have y2:(y:Int) < 256:=(by omega);go_wp2_with fail;go_roundw
     case rel=>exact ⟨trivial,j+1,y / 2,by omega,by omega,by simp,by go_num,bk (by rw [HY.out,Nat.pow_succ,Nat.div_div_eq_div_mul])⟩
     case measure=>simp [intOf];omega
    ·obtain rfl:j = v:=(by omega);have hr:r = ((y:Int) % 2 == 1):=by
      rw [HR.out];unfold xj;rw [Int.toNat_natCast,← HY.out,Bool.eq_iff_iff];simp;omega
     clear HR;subst hr;go_wp2_with fail;go_ret;exact ⟨rfl,rfl⟩
theorem aR (c:Cf) {kind:Nat} (hk:kind < 256) (hm:m < 256) (w:World):Calls Tryz.prog 74 #[.agg (cg c),.agg #[.int .u8 kind,.int .u8 m]] w fun e w'=>e = .returned (.bool (ub c kind m))∧Chg [] w w':=by
 have HB:Hid (CB ((w.alloc (.cells (cg c) 26)).alloc (.cells #[.int .u8 kind,.int .u8 m] 45)) w.heap.size c):=bk ((ax w 26 (cg c)).alloc _);have HP:Hid (Blk ((w.alloc (.cells (cg c) 26)).alloc (.cells #[.int .u8 kind,.int .u8 m] 45)) (w.heap.size+1) 45 #[.int .u8 kind,.int .u8 m]):=bk (by
  have:=ax (w.alloc (.cells (cg c) 26)) 45 #[.int .u8 kind,.int .u8 m]
  rwa [af] at this)
 have HC:Hid (Chg [] w ((w.alloc (.cells (cg c) 26)).alloc (.cells #[.int .u8 kind,.int .u8 m] 45))):=bk (((av [] w).alloc _).alloc _);obtain ⟨r,hr⟩:∃r,r = ub c kind m:=⟨_,rfl⟩;rw [← hr];have HR:=bk hr;clear hr;obtain ⟨x,hx⟩:∃x,mayB c = x:=⟨_,rfl⟩;have H14:=bk (fun W=>yb c W);rw [hx] at H14;have HX:=bk hx;clear hx;cases x with
 | false =>
  obtain rfl:r = false:=by rw [HR.out,ub,HX.out];rfl
  go_enter Tryz.func74,Tryz.ntmps74;go_wp2_with (first|refine da rfl _ rfl rfl ?_|refine dd (b:=w.heap.size) (c:=c) rfl _ rfl rfl ?_ ?_;(focus exact HB.out));refine (H14.out _).mono ?_;rintro e W2 ⟨rfl,kI⟩;go_wp2_with fail;go_ret;exact ⟨rfl,HC.out.stay kI⟩
 | true =>
  have hM:=mayB_iff.1 HX.out;obtain ⟨n,hn⟩:∃n:Nat,c 0 = n:=⟨(c 0).toNat,by have:=hM.n1;omega⟩;have yM:n≤8:=by have:=hM.n8;omega
  have HN:=bk hn;have uG:r = (decide (jr m≤n) && nk kind (tg m)):=by rw [HR.out,ub,HX.out,hn,Bool.true_and];congr 1;simp
  have kH:=bk uG;have HLI:=bk (len8_iff hm yM);have HON:=bk (show nx m 8 = tg m from fF ⟨m,hm⟩);have HHAS:=bk (fun W (k:Nat)=>rhas_any hm (k:Int) W);clear uG HR hM hn;have mG:(kind:Int) < 256:=by omega
  go_enter Tryz.func74,Tryz.ntmps74;go_wp2_with (first|refine da rfl _ rfl rfl ?_|refine dd (b:=w.heap.size) (c:=c) rfl _ rfl rfl ?_ ?_;(focus exact HB.out));refine (H14.out _).mono ?_;rintro e W2 ⟨rfl,kI⟩;have lV:CB W2 w.heap.size c:=CB.stay_ HB.out kI;have yV:=HP.out.chg kI ab;have oQ:=bk (HC.out.stay kI);have g0:=CB.get lV (i:=0) (by omega);rw [HN.out] at g0;have p0:=yV.cell 0;have p1:=yV.cell 1;simp at p0 p1;have qR:=lV.lt;have hpl:=yV.lt;clear lV yV kI HB HP HC;go_wp2_with fail;go_loopw [5,6] (fun s i wr=>wr = W2∧∃k:Nat,k≤8∧s = .int .i64 (nx m k:Nat)∧i = .int .i64 k∧Hid (∀j:Nat,j < k→xj m j = true→j < n)) (fun _ i _=>8 - (intOf i).toNat)
  case atStart=>exact ⟨rfl,0,by omega,rfl,rfl,bk (fun j hj=>by omega)⟩
  case round =>
   obtain ⟨rfl,k,hk8,rfl,rfl,HJ⟩:=hrel;by_cases hkt:k < 8
   ·have k1:(0:Int)≤(k:Int):=(by omega);have k2:(k:Int) < 8:=(by omega);have ol:=uz m k;have ol2:(nx m k:Int)≤8:=(by omega);have xO:nx m (k+1) = nx m k+if xj m k then 1 else 0:=rfl
    have BY:=bk xO;clear xO;go_wp2_with fail;refine (HHAS.out _ k).mono ?_;rintro e W3 ⟨rfl,rfl⟩;cases hh:xj m k with
    | false =>
     have HH:=bk hh;clear hh;go_wp2_with fail;go_roundw
     case rel=>exact ⟨trivial,k+1,by omega,by rw [BY.out,HH.out];simp,by go_num,bk (fun j hj hz=>by
      by_cases e:j = k
      ·subst e;rw [HH.out] at hz;cases hz
      ·exact HJ.out j (by omega) hz)⟩
     case measure=>simp [intOf];omega
    | true =>
     have HH:=bk hh;clear hh;by_cases sU:k < n
     ·have d1:decide ((n:Int)≤(k:Int)) = false:=ac (by omega);have d2:decide (n≤k) = false:=ac (by omega);go_wp2_with fail;go_roundw
      case rel=>exact ⟨trivial,k+1,by omega,by rw [BY.out,HH.out];simp,by go_num,bk (fun j hj hz=>by
       by_cases e:j = k
       ·subst e;exact sU
       ·exact HJ.out j (by omega) hz)⟩
      case measure=>simp [intOf];omega
     ·have d1:decide ((n:Int)≤(k:Int)) = true:=ae (by omega);have d2:decide (n≤k) = true:=ae (by omega);obtain rfl:r = false:=(by rw [kH.out,ac (fun h=>sU (HLI.out.1 h k hkt HH.out))];rfl);go_wp2_with fail;go_ret;exact ⟨rfl,oQ.out⟩
   ·obtain rfl:k = 8:=(by omega);have zE:jr m≤n:=HLI.out.2 HJ.out;have uG:r = (true && nk kind (tg m)):=(by rw [kH.out,ae zE]);clear kH;rw [← HON.out] at uG;have ho8:=uz m 8;generalize nx m 8 = o at uG ho8 ⊢;have kH:=bk uG;clear uG zE;by_cases k0:kind = 0
    ·subst k0;have hr:r = ((o:Int) == 0):=(by rw [kH.out,Bool.eq_iff_iff];simp [nk] <;> omega);subst hr;clear kH;go_wp2_with fail;go_ret;exact ⟨rfl,oQ.out⟩
    have j0:((kind:Int) == 0) = false:=(by simp;omega);have i0:(kind == 0) = false:=(by simpa using k0);by_cases k1:kind = 1
    ·subst k1;have hr:r = ((o:Int) == 1):=(by rw [kH.out,Bool.eq_iff_iff];simp [nk] <;> omega);subst hr;clear kH;go_wp2_with fail;go_ret;exact ⟨rfl,oQ.out⟩
    have j1:((kind:Int) == 1) = false:=(by simp;omega);have i1:(kind == 1) = false:=(by simpa using k1);by_cases k2:kind = 2
    ·subst k2;have hr:r = decide (0 < o):=(by rw [kH.out,Bool.eq_iff_iff];simp [nk] <;> omega);subst hr;clear kH;go_wp2_with fail;go_ret;exact ⟨rfl,oQ.out⟩
    have j2:((kind:Int) == 2) = false:=(by simp;omega);have i2:(kind == 2) = false:=(by simpa using k2);by_cases k3:kind = 3
    ·subst k3;have hr:r = decide (0 < o):=(by rw [kH.out,Bool.eq_iff_iff];simp [nk] <;> omega);subst hr;clear kH;go_wp2_with fail;go_ret;exact ⟨rfl,oQ.out⟩
    have j3:((kind:Int) == 3) = false:=(by simp;omega);have i3:(kind == 3) = false:=(by simpa using k3);have hr:r = false:=(by rw [kH.out,Bool.eq_false_iff];simp [nk] <;> omega);subst hr;clear kH;go_wp2_with fail;go_ret;exact ⟨rfl,oQ.out⟩
