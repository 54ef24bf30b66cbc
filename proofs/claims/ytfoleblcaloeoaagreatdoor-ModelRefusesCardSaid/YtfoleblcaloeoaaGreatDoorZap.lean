/- Texts merged for the claim. -/
import Derived.Test.YtfoleblcaloeoaaGreatDoorZao
set_option maxHeartbeats 40000000
set_option maxRecDepth 20000
namespace Go.Proofs.YtfoleblcaloeoaaGreatDoor
open Go Go.RowKit
structure Pr where
 rl:List Ar.Rn
 pg:Int→Option (List Nat)
 ow:Int→Option (Nat × Nat)
 pk:Nat
 pm:Nat
structure Mo where
 c:Cf
 pr:Int→Option Pr
 ob:Int→Option (List Nat)
 ev:Int→Bool
def upd {α:Type} (f:Int→α) (z:Int) (v:α):Int→α:=fun y=>if y = z then v else f y
def jf:Pr:=⟨[],fun _=>none,fun _=>none,0,0⟩
def nk (c:Cf):Mo:=⟨c,fun _=>none,fun _=>none,fun _=>false⟩
def aq (e:Int):Rs:=⟨e,0,[]⟩
def eh (k:Nat) (e:Int):Bool :=
 ((k == 6 || k == 8 || k == 9) && (decide (e = 6) || decide (e = 40))) || ((k == 1 || k == 10 || k == 18) && decide (e = 6))
def pids:List Int:=[1,2,3,4,5,6,7,8]
def iq (M:Mo):Rs × Option Mo :=
 match pids.find? fun p=>(M.pr p).isNone with
 | some p=>(⟨0,p.toNat,[]⟩,some { M with pr:=upd M.pr p (some jf) })
 | none=>(aq 9,none)
def ja (M:Mo) (s:Int) (v:Nat):Rs × Option Mo :=
 if v = 0∨M.ev v = true then (⟨0,18446744073709551615 - v,[]⟩,none)
 else (⟨0,v,[]⟩,some { M with ob:=upd M.ob v (some (List.replicate s.toNat 0)),ev:=upd M.ev v true })
def cj (b:List Nat) (a:Nat) (l:List Nat):List Nat:=b.take a ++ l ++ b.drop (a+l.length)
def fh (M:Mo) (x:Cl):Rs × Option Mo :=
 match M.ob x.h with
 | none=>(aq 120,none)
 | some b =>
  if x.k = 11 then (aq 0,some { M with ob:=upd M.ob x.h none })
  else if (b.length:Int) < x.a+max x.s x.l.length then (aq 2,none)
  else if x.k = 12 then (⟨0,0,(b.drop x.a.toNat).take x.s.toNat⟩,none)
  else (aq 0,some { M with ob:=upd M.ob x.h (some (cj b x.a.toNat x.l)) })
def inR (p c q:Int):Bool:=decide (p≤q∧q < p+c)
def ch (p:Pr) (x:Cl):Int × Pr :=
 if x.k = 3 then (Ar.mapE p.rl x.g x.c x.r,{ p with rl:=Ar.mapR p.rl x.g x.c x.r })
 else if x.k = 4 then (Ar.unE p.rl x.g x.c,{ p with rl:=Ar.unR p.rl x.g x.c,pg:=fun q=>if inR x.g x.c q then none else p.pg q,ow:=fun q=>if inR x.g x.c q then none else p.ow q })
 else (Ar.prE p.rl x.g x.c x.r,{ p with rl:=Ar.prR p.rl x.g x.c x.r })
def zeroPg:List Nat:=List.replicate 256 0
def cx (p:Pr) (x:Cl):Rs × Option Pr :=
 let page:=x.a / 256
 let at_:=(x.a % 256).toNat
 let b:=(p.pg page).getD zeroPg
 if Ar.rt p.rl page = 0 then (aq 7,none)
 else if x.k = 8 then (if Ar.rt p.rl page % 2 = 0 then (aq 190,none) else (⟨0,0,(b.drop at_).take x.s.toNat⟩,none))
 else (if Ar.rt p.rl page < 2 then (aq 190,none) else (aq 0,some { p with pg:=upd p.pg page (some (cj b at_ x.l)) }))
def ky (p:Pr) (q:Int):Nat × Nat:=(p.ow q).getD (p.pk,p.pm)
def cd (M:Mo) (x:Cl) (v:Nat) (p:Pr):Rs × Option Mo :=
 if x.k = 2 then (aq 0,some { M with pr:=upd M.pr x.p none })
 else if x.k = 14 then (aq 0,some { M with pr:=upd M.pr x.p (some { p with pk:=x.ok,pm:=x.om }) })
 else if x.k = 16 then (⟨0,(ky p x.g).1 * 256+(ky p x.g).2,[]⟩,none)
 else if x.k = 3∨x.k = 4∨x.k = 5 then (aq (ch p x).1,some { M with pr:=upd M.pr x.p (some (ch p x).2) })
 else if x.k = 8∨x.k = 9 then ((cx p x).1,(cx p x).2.map fun q=>{ M with pr:=upd M.pr x.p (some q) })
 else if Ar.mdE p.rl x.g (max x.c 1)≠0 then (aq 7,none)
 else if x.k = 17 then (⟨0,min v (M.c 0).toNat,[]⟩,none)
 else if x.k = 15 then (aq 0,some { M with pr:=upd M.pr x.p (some { p with ow:=fun q=>if inR x.g x.c q then some (x.ok,x.om) else p.ow q }) })
 else (aq 0,none)
def bj (M:Mo) (x:Cl) (v:Nat):Rs × Option Mo :=
 if x.k = 1 then iq M
 else if x.k = 10 then ja M x.s v
 else if x.k = 11∨x.k = 12∨x.k = 13 then fh M x
 else if x.k = 19∨x.k = 20∨x.k = 21 then (aq 0,none)
 else match M.pr x.p with
 | none=>(aq 7,none)
 | some p=>cd M x v p
noncomputable def fv (M:Mo) (x:Cl) (r:Rs):Bool :=
 if ci M.c x = true then da r (aq 2)
 else if eh x.k r.e = true then da r (aq r.e)
 else da r (bj M x r.v).1
noncomputable def ic (M:Mo) (x:Cl) (r:Rs):Mo :=
 if ci M.c x = true∨eh x.k r.e = true∨da r (bj M x r.v).1 = false∨r.e≠0 then M else ((bj M x r.v).2).getD M
def CP (F:Nat→Prop) (w w':World):Prop:=∃G,Chg G w w'∧∀k∈G,F k∨w.heap.size≤k
theorem CP.of {F:Nat→Prop} {G:List Nat} {w w':World} (h:Chg G w w') (hG:∀k∈G,F k∨w.heap.size≤k):CP F w w':=⟨G,h,hG⟩
theorem CP.of0 {F:Nat→Prop} {w w':World} (h:Chg [] w w'):CP F w w':=⟨[],h,fun _ h=>by cases h⟩
theorem CP.size {F:Nat→Prop} {w w':World} (h:CP F w w'):w.heap.size≤w'.heap.size:=by
 obtain ⟨G,h,_⟩:=h
 exact h.size
theorem CP.trans {F G:Nat→Prop} {a b c:World} (h:CP F a b) (k:CP G b c) (hG:∀x,G x→F x∨a.heap.size≤x):CP F a c:=by
 obtain ⟨L,h1,h2⟩:=h
 obtain ⟨K,k1,k2⟩:=k
 refine ⟨L ++ K,(h1.mono (fun x hx=>.inl (List.mem_append_left _ hx))).trans k1 (fun x hx=>.inl (List.mem_append_right _ hx)),fun x hx=>?_⟩
 rcases List.mem_append.1 hx with hx | hx
 ·exact h2 x hx
 ·rcases k2 x hx with h3 | h3
  ·exact hG x h3
  ·have:=h1.size;exact .inr (by omega)
theorem CP.avoid {F:Nat→Prop} {w w':World} (h:CP F w w') (L:List Nat) (hL:∀k∈L,¬ F k) (hl:∀k∈L,k < w.heap.size):∃G,Chg G w w'∧∀k∈L,k∉G:=by
 obtain ⟨G,h1,h2⟩:=h
 exact ⟨G,h1,fun k hk hg=>(h2 k hg).elim (hL k hk) (fun h3=>by have:=hl k hk;omega)⟩
theorem Blk.cp {F:Nat→Prop} {w w':World} {g:Nat} {t:TypeId} {cs:Array Value} (h:Blk w g t cs) (hc:CP F w w') (hg:¬ F g):Blk w' g t cs:=by
 obtain ⟨G,h1,h2⟩:=hc.avoid [g] (by simpa using hg) (by simpa using h.lt)
 exact h.chg h1 (h2 g (List.mem_singleton.2 rfl))
theorem MapB.cp {F:Nat→Prop} {w w':World} {b:Nat} {k:IntKind} {f:Int→Option Value} (h:MapB w b k f) (hc:CP F w w') (hg:¬ F b):MapB w' b k f:=by
 obtain ⟨G,h1,h2⟩:=hc.avoid [b] (by simpa using hg) (by simpa using h.lt)
 exact h.chg h1 (h2 b (List.mem_singleton.2 rfl))
theorem SB.cp {F:Nat→Prop} {w w':World} {v:Value} {l:List Nat} (h:SB w v l) (hc:CP F w w') (hg:∀k∈own v,¬ F k):SB w' v l:=by
 obtain ⟨G,h1,h2⟩:=hc.avoid (own v) hg h.own_lt
 exact h.chg h1 h2
theorem Ar.AMem.cp {F:Nat→Prop} {w w':World} {d:Nat} {l:List Ar.Rn} {L:List Nat} (h:Ar.AMem w d l L) (hc:CP F w w') (hg:∀k∈L,¬ F k):Ar.AMem w' d l L:=by
 obtain ⟨G,h1,h2⟩:=hc.avoid L hg h.lt
 exact h.chg h1 h2
def pgc (l:List Nat):Array Value:=(l.map fun (x:Nat)=>Value.int .u8 (x:Int)).toArray
structure PgB (w:World) (b:Nat) (l:List Nat):Prop where
 blk:Blk w b 138 (pgc l)
 len:l.length = 256
 b8:∀x∈l,x < 256
theorem PgB.cp {F:Nat→Prop} {w w':World} {b:Nat} {l:List Nat} (h:PgB w b l) (hc:CP F w w') (hg:¬ F b):PgB w' b l:=⟨h.blk.cp hc hg,h.len,h.b8⟩
def prc (d bp bo:Nat) (p:Pr):Array Value:=#[.pointer (some ⟨d,0,none⟩),.map (some bp),.map (some bo),.int .u8 p.pk,.int .u8 p.pm]
structure PIn (w:World) (b:Nat) (p:Pr) (d:Nat) (FA:List Nat) (bp bo:Nat) (fp fo:Int→Option Value) (gp:Int→Nat):Prop where
 blk:Blk w b 113 (prc d bp bo p)
 ar:Ar.AMem w d p.rl FA
 sp:Ar.Sp p.rl
 mp:MapB w bp .i64 fp
 mo:MapB w bo .i64 fo
 hp:∀n,fp n = (p.pg n).map fun _=>.pointer (some ⟨gp n,0,none⟩)
 ho:∀n,fo n = (p.ow n).map fun q=>.agg #[.int .u8 q.1,.int .u8 q.2]
 pg:∀n B,p.pg n = some B→PgB w (gp n) B
 inj:∀n n' B B',p.pg n = some B→p.pg n' = some B'→gp n = gp n'→n = n'
 ne:bp≠bo
 pk:p.pk < 256
 pm:p.pm < 256
 ow:∀n q,p.ow n = some q→q.1 < 256∧q.2 < 256
def FPr (p:Pr) (b:Nat) (FA:List Nat) (bp bo:Nat) (gp:Int→Nat) (k:Nat):Prop:=k = b∨k∈FA∨k = bp∨k = bo∨∃n B,p.pg n = some B∧k = gp n
def PMem (w:World) (b:Nat) (p:Pr) (F:Nat→Prop):Prop :=
 ∃d FA bp bo fp fo gp,PIn w b p d FA bp bo fp fo gp∧(∀k,FPr p b FA bp bo gp k→F k)∧∀k,F k→k < w.heap.size
theorem PIn.cp {G:Nat→Prop} {w w':World} {b:Nat} {p:Pr} {d:Nat} {FA:List Nat} {bp bo:Nat} {fp fo:Int→Option Value} {gp:Int→Nat} (h:PIn w b p d FA bp bo fp fo gp) (hc:CP G w w') (hg:∀k,FPr p b FA bp bo gp k→¬ G k):PIn w' b p d FA bp bo fp fo gp :=
 { blk:=h.blk.cp hc (hg _ (.inl rfl)),ar:=h.ar.cp hc (fun k hk=>hg k (.inr (.inl hk))),sp:=h.sp,mp:=h.mp.cp hc (hg _ (.inr (.inr (.inl rfl)))),mo:=h.mo.cp hc (hg _ (.inr (.inr (.inr (.inl rfl))))),hp:=h.hp,ho:=h.ho,pg:=fun n B hB=>(h.pg n B hB).cp hc (hg _ (.inr (.inr (.inr (.inr ⟨n,B,hB,rfl⟩))))),inj:=h.inj,ne:=h.ne,pk:=h.pk,pm:=h.pm,ow:=h.ow }
theorem PMem.cp {F G:Nat→Prop} {w w':World} {b:Nat} {p:Pr} (h:PMem w b p F) (hc:CP G w w') (hg:∀k,F k→¬ G k):PMem w' b p F:=by
 obtain ⟨d,FA,bp,bo,fp,fo,gp,h1,h2,h3⟩:=h
 exact ⟨d,FA,bp,bo,fp,fo,gp,h1.cp hc (fun k hk=>hg k (h2 k hk)),h2,fun k hk=>Nat.lt_of_lt_of_le (h3 k hk) hc.size⟩
def mgc (c:Cf) (bp bo be:Nat):Array Value:=cg c ++ #[.map (some bp),.map (some bo),.map (some be)]
structure MIn (w:World) (m:Nat) (M:Mo) (bp bo be:Nat) (fp fo fe:Int→Option Value) (gb:Int→Nat) (GF:Int→Nat→Prop) (ov:Int→Value):Prop where
 blk:Blk w m 62 (mgc M.c bp bo be)
 mp:MapB w bp .i64 fp
 mo:MapB w bo .u64 fo
 me:MapB w be .u64 fe
 hp:∀n,fp n = (M.pr n).map fun _=>.pointer (some ⟨gb n,0,none⟩)
 pr:∀n p,M.pr n = some p→PMem w (gb n) p (GF n)
 ap:∀n n' p p',M.pr n = some p→M.pr n' = some p'→n≠n'→∀k,GF n k→¬ GF n' k
 rng:∀n p,M.pr n = some p→1≤n∧n≤8
 ho:∀h,fo h = (M.ob h).map fun _=>ov h
 ob:∀h B,M.ob h = some B→SB w (ov h) B∧(∀x∈B,x < 256)∧B.length≤128
 oa:∀h h' B B',M.ob h = some B→M.ob h' = some B'→h≠h'→∀k∈own (ov h),k∉own (ov h')
 he:∀h,fe h = if M.ev h then some (.bool true) else none
 d1:bp≠bo
 d2:bp≠be
 d3:bo≠be
 dm:∀n p,M.pr n = some p→∀k,GF n k→k≠m∧k≠bp∧k≠bo∧k≠be∧∀h B,M.ob h = some B→k∉own (ov h)
def FMo (M:Mo) (m bp bo be:Nat) (GF:Int→Nat→Prop) (ov:Int→Value) (k:Nat):Prop :=
 k = m∨k = bp∨k = bo∨k = be∨(∃n p,M.pr n = some p∧GF n k)∨∃h B,M.ob h = some B∧k∈own (ov h)
def MMem (w:World) (m:Nat) (M:Mo) (O:Nat→Prop):Prop :=
 ∃bp bo be fp fo fe gb GF ov,MIn w m M bp bo be fp fo fe gb GF ov∧(∀k,FMo M m bp bo be GF ov k→O k)∧∀k,O k→k < w.heap.size
theorem MIn.cp {G:Nat→Prop} {w w':World} {m:Nat} {M:Mo} {bp bo be:Nat} {fp fo fe:Int→Option Value} {gb:Int→Nat} {GF:Int→Nat→Prop} {ov:Int→Value} (h:MIn w m M bp bo be fp fo fe gb GF ov) (hc:CP G w w') (hg:∀k,FMo M m bp bo be GF ov k→¬ G k):MIn w' m M bp bo be fp fo fe gb GF ov :=
 { blk:=h.blk.cp hc (hg _ (.inl rfl)),mp:=h.mp.cp hc (hg _ (.inr (.inl rfl))),mo:=h.mo.cp hc (hg _ (.inr (.inr (.inl rfl)))),me:=h.me.cp hc (hg _ (.inr (.inr (.inr (.inl rfl))))),hp:=h.hp,pr:=fun n p hp=>(h.pr n p hp).cp hc (fun k hk=>hg k (.inr (.inr (.inr (.inr (.inl ⟨n,p,hp,hk⟩)))))),ap:=h.ap,rng:=h.rng,ho:=h.ho,ob:=fun z B hB=>⟨SB.cp (h.ob z B hB).1 hc (fun k hk=>hg k (.inr (.inr (.inr (.inr (.inr ⟨z,B,hB,hk⟩)))))),(h.ob z B hB).2⟩,oa:=h.oa,he:=h.he,d1:=h.d1,d2:=h.d2,d3:=h.d3,dm:=h.dm }
theorem MMem.cp {O G:Nat→Prop} {w w':World} {m:Nat} {M:Mo} (h:MMem w m M O) (hc:CP G w w') (hg:∀k,O k→¬ G k):MMem w' m M O:=by
 obtain ⟨bp,bo,be,fp,fo,fe,gb,GF,ov,h1,h2,h3⟩:=h
 exact ⟨bp,bo,be,fp,fo,fe,gb,GF,ov,h1.cp hc (fun k hk=>hg k (h2 k hk)),h2,fun k hk=>Nat.lt_of_lt_of_le (h3 k hk) hc.size⟩
theorem MMem.stay {O:Nat→Prop} {w w':World} {m:Nat} {M:Mo} (h:MMem w m M O) (hc:Chg [] w w'):MMem w' m M O:=h.cp (CP.of0 (F:=fun _=>False) hc) (fun _ _ h=>h)
theorem MMem.lt {O:Nat→Prop} {w:World} {m:Nat} {M:Mo} (h:MMem w m M O):∀k,O k→k < w.heap.size:=by
 obtain ⟨bp,bo,be,fp,fo,fe,gb,GF,ov,h1,h2,h3⟩:=h
 exact h3
theorem mgc_lo (c:Cf) (bp bo be:Nat) {i:Nat} (h:i < 94):(mgc c bp bo be)[i]? = some (.int .i64 (c i)):=by
 unfold mgc
 rw [Array.getElem?_append_left (by rw [ei];exact h)]
 exact ig c h
theorem dX (c:Cf) (bp bo be:Nat):(mgc c bp bo be)[94]? = some (.map (some bp))∧(mgc c bp bo be)[95]? = some (.map (some bo))∧(mgc c bp bo be)[96]? = some (.map (some be)):=by
 unfold mgc
 refine ⟨?_,?_,?_⟩ <;> rw [Array.getElem?_append_right (by rw [ei];omega),ei] <;> rfl
theorem cc {w:World} {m bp bo be:Nat} {c:Cf} (h:Blk w m 62 (mgc c bp bo be)) :
  w.cell? ⟨m,94,none⟩ = some (.map (some bp))∧w.cell? ⟨m,95,none⟩ = some (.map (some bo))∧w.cell? ⟨m,96,none⟩ = some (.map (some be))∧m < w.heap.size∧w.cell? ⟨m,0,none⟩ = some (.int .i64 (c 0)) :=
 ⟨(h.cell 94).trans (dX c bp bo be).1,(h.cell 95).trans (dX c bp bo be).2.1,(h.cell 96).trans (dX c bp bo be).2.2,h.lt,(h.cell 0).trans (mgc_lo c bp bo be (by omega))⟩
theorem dp {w:World} {m bp bo be:Nat} {c:Cf} (h:Blk w m 62 (mgc c bp bo be)):(loadVar 26 ⟨m,0,none⟩).run Tryz.prog w = .ok (.agg (cg c)) w:=by
 have hr:w.rangeAt m 0 (cg c).toList:=by
  have:=World.rangeAt_of_block (C:=mgc c bp bo be) h 0 94
  have e:((mgc c bp bo be).extract 0 (0+94)).toList = (cg c).toList:=by
   unfold mgc
   rw [show (0+94) = (cg c).size by rw [ei],Array.extract_append_left]
   simp
  rwa [e] at this
 have:=run_loadVar_mid (P:=Tryz.prog) w m 0 26 (cg c).toList _ hr Tryz.underlying26 rfl (by rw [Array.length_toList];exact mh)
 simpa using this
theorem eqM1 (b:Nat) (w:World):(binOp .eql 58 (.map (some b)) (.map none)).run Tryz.prog w = .ok (.bool false) w:=by kernel_rfl
theorem qi {w:World} {m bp bo be:Nat} {c:Cf} (h:Blk w m 62 (mgc c bp bo be)) :
  Calls Tryz.prog 27 #[.pointer (some ⟨m,0,none⟩)] w fun e w'=>e = .returned (.bool false)∧w = w':=by
 obtain ⟨q0,-,-,ql,-⟩:=cc h
 have hem:=eqM1 bp
 clear h
 go_enter Tryz.func27,Tryz.ntmps27
 go_wp2_with fail
 go_ret
 exact ⟨rfl,rfl⟩
structure BR (l:List (Nat × Value)) (r:Rs) (v:Value):Prop where
 h:Tryz.prog.built 40 l = some (rsc r v)
theorem bx {ops:Array Oper} {rest:List Oper} {o:Oper} {a:Act} {w:World} {Q:Exit→Act→World→Prop} {r:Rs} {v:Value} (hg:o.guard = none) (parts:Array (Nat × Operand)) (ho:o.op = .build 40 parts)
  {l:List (Nat × Value)} (hb:BR l r v) (hl:(parts.map fun (i,x)=>(i,a.eval x)).toList = l) (h:wpList Tryz.prog ops Q rest (a.put o.dst (.agg (rsc r v))) w):wpList Tryz.prog ops Q (o :: rest) a w :=
 wpList_build hg 40 parts ho (by rw [hl,hb.h];rfl) (by rw [hl,hb.h];exact h)
theorem bk {ops:Array Oper} {rest:List Oper} {o:Oper} {a:Act} {w:World} {Q:Exit→Act→World→Prop} {r:Rs} {v:Value} (parts:Array (Nat × Operand)) (ho:o.op = .build 40 parts)
  {l:List (Nat × Value)} (hw:Region.wanted o (yielded ops a.tmps) = true) (hb:BR l r v) (hl:(parts.map fun (i,x)=>(i,a.eval x)).toList = l) (h:wpList Tryz.prog ops Q rest (a.put o.dst (.agg (rsc r v))) w):wpList Tryz.prog ops Q (o :: rest) a w :=
 wpList_step fun K I=>by
  rw [if_pos hw]
  exact wp_build 40 parts ho (by rw [hl,hb.h];rfl) (I _ _ (by rw [hl,hb.h];exact h))
theorem br_e (e:Int):BR [(0,.int .i64 e)] (aq e) zV:=⟨by kernel_rfl⟩
theorem br_v (v:Nat):BR [(1,.int .u64 v)] ⟨0,v,[]⟩ zV:=⟨by kernel_rfl⟩
theorem br_0:BR [] (aq 0) zV:=⟨by kernel_rfl⟩
theorem br_l (A:Option Addr) (n c:Nat) (l:List Nat):BR [(2,.slice A n c)] ⟨0,0,l⟩ (.slice A n c):=⟨by kernel_rfl⟩
theorem vi {W w':World} {o:Obj} (hc:Chg [W.heap.size] (W.alloc o) w'):Chg [] W w' :=
 ((Chg.refl [] W).alloc _).trans hc (fun y hy=>.inr (by obtain rfl:=aa hy;exact Nat.le_refl _))
theorem kh (e:Int) (w:World):Calls Tryz.prog 30 #[.int .i64 e] w fun e' w'=>e' = .returned (.agg (rsc (aq e) zV))∧Chg [] w w':=by
 have HB:=ah (br_e e)
 go_enter Tryz.func30,Tryz.ntmps30
 go_wp2_with (first|refine bn rfl rfl ?_;try go_simp|refine bx rfl _ rfl HB.out ?_ ?_;(focus (simp [Act.eval];done))|refine au (b:=w.heap.size) (y:=aq e) (u:=zV) rfl _ _ rfl rfl rfl rfl (Blk.new w _ _) ?_;intro W4 h4 jT)
 refine bodyPost_ret (v:=.agg (rsc (aq e) zV)) (results_cell_row (p:=2) (ty:=40) rfl _ _ w.heap.size 40 _ (0,0) _ rfl h4 Tryz.underlying40 rfl ct) rfl ⟨rfl,vi jT⟩
theorem free_any (k:Nat) (e:Int) (w:World):Calls Tryz.prog 31 #[.int .u8 k,.int .i64 e] w fun e' w'=>e' = .returned (.bool (eh k e))∧w = w':=by
 obtain ⟨R,hR⟩:∃R,R = eh k e:=⟨_,rfl⟩
 rw [← hR]
 unfold eh at hR
 obtain ⟨k0,oB⟩:∃z:Int,z = (k:Int):=⟨_,rfl⟩
 rw [← oB]
 have e6:(k == 6) = (k0 == 6):=by rw [oB,Bool.eq_iff_iff];simp;omega
 have e8:(k == 8) = (k0 == 8):=by rw [oB,Bool.eq_iff_iff];simp;omega
 have e9:(k == 9) = (k0 == 9):=by rw [oB,Bool.eq_iff_iff];simp;omega
 have e1:(k == 1) = (k0 == 1):=by rw [oB,Bool.eq_iff_iff];simp;omega
 have e10:(k == 10) = (k0 == 10):=by rw [oB,Bool.eq_iff_iff];simp;omega
 have e18:(k == 18) = (k0 == 18):=by rw [oB,Bool.eq_iff_iff];simp;omega
 rw [e6,e8,e9,e1,e10,e18] at hR
 have HR:=ah hR
 clear e6 e8 e9 e1 e10 e18 oB hR
 by_cases h6:k0 = 6∨k0 = 8∨k0 = 9
 ·by_cases he:e = 6
  ·subst he
   rcases h6 with rfl | rfl | rfl
   all_goals
    go_enter Tryz.func31,Tryz.ntmps31
    go_wp2_with fail
    go_ret
    exact ⟨by rw [HR.out];rfl,rfl⟩
  ·have d1:(e == 6) = false:=beq_false_of_ne he
   have HE:=ah he
   clear he
   rcases h6 with rfl | rfl | rfl
   all_goals
    go_enter Tryz.func31,Tryz.ntmps31
    go_wp2_with fail
    go_ret
    exact ⟨by rw [HR.out,ac HE.out];simp;rw [Bool.eq_iff_iff];simp,rfl⟩
 ·have f1:(k0 == 6) = false:=beq_false_of_ne (fun h=>h6 (.inl h))
  have f2:(k0 == 8) = false:=beq_false_of_ne (fun h=>h6 (.inr (.inl h)))
  have f3:(k0 == 9) = false:=beq_false_of_ne (fun h=>h6 (.inr (.inr h)))
  have HF:=ah (And.intro f1 (And.intro f2 f3))
  clear h6
  by_cases h1:k0 = 1∨k0 = 10∨k0 = 18
  ·rcases h1 with rfl | rfl | rfl
   all_goals
    clear f1 f2 f3
    go_enter Tryz.func31,Tryz.ntmps31
    go_wp2_with fail
    go_ret
    exact ⟨by rw [HR.out];simp;rw [Bool.eq_iff_iff];simp,rfl⟩
  ·have g1:(k0 == 1) = false:=beq_false_of_ne (fun h=>h1 (.inl h))
   have g2:(k0 == 10) = false:=beq_false_of_ne (fun h=>h1 (.inr (.inl h)))
   have g3:(k0 == 18) = false:=beq_false_of_ne (fun h=>h1 (.inr (.inr h)))
   have HG:=ah (And.intro g1 (And.intro g2 g3))
   clear h1
   go_enter Tryz.func31,Tryz.ntmps31
   go_wp2_with fail
   go_ret
   exact ⟨by rw [HR.out,HF.out.1,HF.out.2.1,HF.out.2.2,HG.out.1,HG.out.2.1,HG.out.2.2];rfl,rfl⟩
structure BM (l:List (Nat × Value)) (c:Cf) (bp bo be:Nat):Prop where
 h:Tryz.prog.built 62 l = some (mgc c bp bo be)
theorem se (c:Cf) (bp bo be:Nat):BM [(0,.agg (cg c)),(1,.map (some bp)),(2,.map (some bo)),(3,.map (some be))] c bp bo be:=⟨by kernel_rfl⟩
theorem xm {ops:Array Oper} {rest:List Oper} {o:Oper} {a:Act} {w:World} {Q:Exit→Act→World→Prop} {c:Cf} {bp bo be:Nat} (hg:o.guard = none) (parts:Array (Nat × Operand)) (ho:o.op = .build 62 parts)
  {l:List (Nat × Value)} (hb:BM l c bp bo be) (hl:(parts.map fun (i,x)=>(i,a.eval x)).toList = l) (h:wpList Tryz.prog ops Q rest (a.put o.dst (.agg (mgc c bp bo be))) w):wpList Tryz.prog ops Q (o :: rest) a w :=
 wpList_build hg 62 parts ho (by rw [hl,hb.h];rfl) (by rw [hl,hb.h];exact h)
theorem aZ {ops:Array Oper} {rest:List Oper} {o:Oper} {a:Act} {w:World} {Q:Exit→Act→World→Prop} {cs:Array Value} (hg:o.guard = none) (z:Operand) (ho:o.op = .box 62 z) (hx:a.eval z = .agg cs)
  (h:wpList Tryz.prog ops Q rest (a.put o.dst (.pointer (some ⟨w.heap.size,0,none⟩))) (w.alloc (.cells cs 62))):wpList Tryz.prog ops Q (o :: rest) a w :=
 Great.wpList_runTo hg _ rfl _ _ (by unfold execOp;simp only [ho,hx,Sem.run_bind,Instr.box,newVar,newRow,run_newObj_alloc,Sem.run_pure,Result.andThen_ok,Value.cells]) h
theorem fG {w:World} {c:Cf} (hc:mayB c = true) :
  Calls Tryz.prog 8 #[.agg (cg c)] w fun e w'=>(∃m,e = .returned (.tuple #[.pointer (some ⟨m,0,none⟩),.int .i64 0])∧∃O,MMem w' m (nk c) O∧∀k,O k→w.heap.size≤k)∧Chg [] w w':=by
 obtain ⟨W2,jB⟩:∃W2,W2 = w.alloc (.cells (cg c) 26):=⟨_,rfl⟩
 have hb:CB W2 w.heap.size c:=by rw [jB];exact Blk.new w 26 _
 have HB:=ah hb
 have HC:=ah (show Chg [] w W2 by rw [jB];exact (Chg.refl [] w).alloc _)
 have jP:=ah jB
 have HM:=ah (fun W=>zt c W)
 rw [hc] at HM
 clear hb jB hc
 go_enter Tryz.func8,Tryz.ntmps8
 go_wp2_with (first|refine cb rfl _ rfl rfl ?_;try rw [← jP.out]|refine cw (b:=w.heap.size) (c:=c) rfl _ rfl rfl ?_ ?_;(focus exact HB.out))
 refine (HM.out _).mono ?_
 rintro e W3 ⟨rfl,jD⟩
 have jE:=ah (HC.out.stay jD)
 have jY:=ah (Blk.chg HB.out jD ab)
 clear jD HB
 have qI:∀(t:TypeId) (W:World),(Instr.makeMap t none).run Tryz.prog W = .ok (.map (some W.heap.size)) (W.alloc (.map #[] 0)):=fun t W=>run_makeMap t W
 have vZ:=ah (se c W3.heap.size (W3.heap.size+1) (W3.heap.size+1+1))
 go_wp2_with (first|refine cw (b:=w.heap.size) (c:=c) rfl _ rfl rfl ?_ ?_;(focus exact jY.out)|refine xm rfl _ rfl vZ.out ?_ ?_;(focus (simp [Act.eval];done))|refine aZ rfl _ rfl rfl ?_)
 have hs:=jE.out.size
 have rJ:∃O,MMem ((((W3.alloc (Obj.map #[] 0)).alloc (Obj.map #[] 0)).alloc (Obj.map #[] 0)).alloc (Obj.cells (mgc c W3.heap.size (W3.heap.size+1) (W3.heap.size+1+1)) 62)) (W3.heap.size+1+1+1) (nk c) O∧∀k,O k→w.heap.size≤k:=by
  have h0:=MapB.new W3 .i64
  have h1:=MapB.new (W3.alloc (.map #[] 0)) .u64
  have h2:=MapB.new ((W3.alloc (.map #[] 0)).alloc (.map #[] 0)) .u64
  have h3:=Blk.new (((W3.alloc (.map #[] 0)).alloc (.map #[] 0)).alloc (.map #[] 0)) 62 (mgc c W3.heap.size (W3.heap.size+1) (W3.heap.size+1+1))
  simp only [af] at h0 h1 h2 h3
  refine ⟨fun k=>W3.heap.size≤k∧k < W3.heap.size+4,⟨_,_,_,_,_,_,fun _=>0,fun _ _=>False,fun _=>.slice none 0 0,⟨h3,h0.stay ((((Chg.refl [] _).alloc _).alloc _).alloc _),h1.stay (((Chg.refl [] _).alloc _).alloc _),h2.stay ((Chg.refl [] _).alloc _),fun _=>rfl,?_,?_,?_,fun _=>rfl,?_,?_,fun _=>rfl,?_,?_,?_,?_⟩,?_,?_⟩,fun k hk=>?_⟩
  ·intro n p hp;cases hp
  ·intro n n' p p' hp;cases hp
  ·intro n p hp;cases hp
  ·intro n p hp;cases hp
  ·intro n n' p p' hp;cases hp
  ·omega
  ·omega
  ·omega
  ·intro n p hp;cases hp
  ·intro k hk
   rcases hk with h | h | h | h | ⟨n,p,h,_⟩ | ⟨n,p,h,_⟩
   ·show _≤_∧_;omega
   ·show _≤_∧_;omega
   ·show _≤_∧_;omega
   ·show _≤_∧_;omega
   ·cases h
   ·cases h
  ·intro k hk
   simp only [af]
   have:W3.heap.size≤k∧k < W3.heap.size+4:=hk
   omega
  ·have:W3.heap.size≤k∧k < W3.heap.size+4:=hk
   omega
 go_ret2
 exact ⟨⟨_,rfl,rJ⟩,(((jE.out.alloc _).alloc _).alloc _).alloc _⟩
def Off (w:World) (O:Nat→Prop) (X F:List Nat):Prop:=∀j∈F,j < w.heap.size∧¬ O j∧j∉X
theorem Off.new {w:World} {O:Nat→Prop} {X F:List Nat} (h:Off w O X F) {k:Nat} (hk:w.heap.size≤k):k∉F:=fun hm=>Nat.not_lt.2 hk (h k hm).1
theorem Off.out {w:World} {O:Nat→Prop} {X F:List Nat} (h:Off w O X F) {k:Nat} (hk:k∈X):k∉F:=fun hm=>(h k hm).2.2 hk
theorem Off.cp {w a b c:World} {O:Nat→Prop} {X F:List Nat} (h:Off w O X F) (hc:Chg [] a b) (hd:Chg F b c):CP (fun k=>¬ O k) a c :=
 CP.of ((hc.up F).and_ hd) (fun k hk=>.inl (h k hk).2.1)
theorem Off.nil (w:World) (O:Nat→Prop) (X:List Nat):Off w O X []:=fun _ h=>by cases h
theorem MMem.off {w W:World} {m:Nat} {M:Mo} {O:Nat→Prop} (h:MMem w m M O) (hc:CP (fun k=>¬ O k) w W):MMem W m M O:=h.cp hc (fun _ h h'=>h' h)
def Ent (k:FuncId):Prop:=∀(a:Array Value) (W:World),(callFunc k a).run Tryz.prog W = .ok (.enter k a) W
theorem oc {k:FuncId} {fn:Func} (hf:Tryz.prog.funcs[k]? = some fn) (h1:(fn.name == "runtime.NumGoroutine") = false) (h2:fn.body.isNone = false):Ent k:=fun a W=>by
 have h3:¬ fn.name = "runtime.NumGoroutine":=by simpa using h1
 have h4:¬ fn.body = none:=fun h=>by rw [h] at h2;cases h2
 unfold callFunc
 simp [Sem.run_bind,program,Sem.run,hf,h3,h4,Result.andThen]
def Eff (w w':World) (m:Nat) (O:Nat→Prop) (X:List Nat) (f:Value) (N:Option Mo):Prop :=
 match N with
 | none=>f = .nilFunc
 | some M'=>∃k caps,f = .func (.func k) #[] caps∧Ent k∧∀F W,Off w O X F→Chg F w' W→Calls Tryz.prog k caps W fun e W'=>e = .returned (.tuple #[])∧CP (fun k=>O k∨w.heap.size≤k) W W'∧∃O',MMem W' m M' O'∧∀k,O' k→O k∨w.heap.size≤k
theorem CP.or {F G:Nat→Prop} {w w':World} (h:CP F w w'):CP (fun k=>F k∨G k) w w':=by
 obtain ⟨L,h1,h2⟩:=h
 exact ⟨L,h1,fun k hk=>(h2 k hk).imp .inl id⟩
def AnsR (w w':World) (m:Nat) (O:Nat→Prop) (X:List Nat) (R:Rs × Option Mo) (e:Ending):Prop :=
 ∃A n c f,e = .returned (.tuple #[.agg (rsc R.1 (.slice A n c)),f])∧RB w' (.slice A n c) R.1.l∧(∀k∈own (.slice A n c),O k∨w.heap.size≤k)∧Eff w w' m O X f R.2
theorem AnsR.put {w Wc W':World} {m:Nat} {O:Nat→Prop} {X:List Nat} {R:Rs × Option Mo} {e:Ending} (h:AnsR Wc W' m O X R e) {b:Nat} (hs:w.heap.size≤Wc.heap.size) (hb:w.heap.size≤b) (kU:b < Wc.heap.size) (hO:¬ O b) (hX:b∉X) :
  ∃A n c f,e = .returned (.tuple #[.agg (rsc R.1 (.slice A n c)),f])∧∀W7,Chg [b] W' W7→AnsR w W7 m O X R (.returned (.tuple #[.agg (rsc R.1 (.slice A n c)),f])):=by
 obtain ⟨R1,N⟩:=R
 obtain ⟨A,n,c,f,rfl,h1,h2,h3⟩:=h
 refine ⟨A,n,c,f,rfl,fun W7 hc=>⟨A,n,c,f,rfl,h1.chg hc (fun k hk pJ=>?_),fun k hk=>(h2 k hk).imp id (ag hs),?_⟩⟩
 ·obtain rfl:=aa pJ
  rcases h2 k hk with h | h
  ·exact hO h
  ·omega
 ·unfold Eff at h3 ⊢
  cases N with
  | none=>exact h3
  | some M' =>
   obtain ⟨k,caps,hf,he,h4⟩:=h3
   refine ⟨k,caps,hf,he,fun F W hF hW=>(h4 (b :: F) W (fun j hj=>?_) ((hc.mono (fun y hy=>.inl (by obtain rfl:=aa hy;exact List.mem_cons_self ..))).trans hW (fun y hy=>.inl (List.mem_cons_of_mem _ hy)))).mono ?_⟩
   ·rcases List.mem_cons.1 hj with rfl | hj
    ·exact ⟨kU,hO,hX⟩
    ·have:=hF j hj
     exact ⟨by omega,this.2⟩
   ·rintro e' W2 ⟨rfl,⟨L,g1,g2⟩,O',k2,k3⟩
    exact ⟨rfl,⟨L,g1,fun k hk=>(g2 k hk).imp (fun h=>h.imp id (ag hs)) id⟩,O',k2,fun k hk=>(k3 k hk).imp id (ag hs)⟩
theorem AnsR.plain {w W7:World} {m:Nat} {O:Nat→Prop} {X:List Nat} {R:Rs} (h:R.l = []):AnsR w W7 m O X (R,none) (.returned (.tuple #[.agg (rsc R zV),.nilFunc])):=by
 refine ⟨none,0,0,.nilFunc,rfl,?_,(fun _ h=>(bw h).elim),rfl⟩
 show RB W7 (.slice none 0 0) R.l
 rw [h]
 exact RE.nil _ _ _ _ _
theorem bf {fn:Func} {p q:Tmp} {w:World} {b:Nat} {x:Rs} {v:Value} (h:fn.results = #[.cell p 40,.tmp q]) (tmps:Array Value) (hp:tmps.getD p undef = .pointer (some ⟨b,0,none⟩)) (hb:XB w b x v) :
  (results fn tmps).run Tryz.prog w = .ok (.tuple #[.agg (rsc x v),tmps.getD q undef]) w:=by
 have nM:tmps[p]?.getD undef = .pointer (some ⟨b,0,none⟩):=by simpa using hp
 have hl:=run_loadVar_row w b 40 40 _ (0,0) _ hb Tryz.underlying40 rfl ct
 simp [results,h,nM,asAddr,hl]
theorem zero72:∀w,(zeroValue 103).run Tryz.prog w = .ok (.pointer none) w:=by
 have h:(Tryz.prog.info? 103).map (fun i=>(i.zero,i.size)) = some (some (.pointer none),1):=by kernel_rfl
 exact (zero_of_info h).1
theorem sz {w:World} {m:Nat} {M:Mo} {bp bo be:Nat} {fp fo fe:Int→Option Value} {gb:Int→Nat} {GF:Int→Nat→Prop} {ov:Int→Value} (h:MIn w m M bp bo be fp fo fe gb GF ov) (z:Int) :
  (Instr.lookup 58 (.map (some bp)) (.int .i64 z) false).run Tryz.prog w = .ok (match M.pr z with | some _=>.pointer (some ⟨gb z,0,none⟩) | none=>.pointer none) w:=by
 cases hp:M.pr z with
 | none=>exact ej Tryz.underlying58 Tryz.underlying3 h.mp (by rw [h.hp,hp];rfl) (zero72 w) false
 | some p=>exact dy Tryz.underlying58 Tryz.underlying3 h.mp (by rw [h.hp,hp];rfl) false
structure BP (l:List (Nat × Value)) (d bp bo:Nat) (p:Pr):Prop where
 h:Tryz.prog.built 113 l = some (prc d bp bo p)
theorem tv (d bp bo:Nat):BP [(0,.pointer (some ⟨d,0,none⟩)),(1,.map (some bp)),(2,.map (some bo))] d bp bo jf:=⟨by kernel_rfl⟩
theorem gy {o:Oper} {a:Act} {w:World} {K:Act→World→Prop} {Q:Exit→Act→World→Prop} {d bp bo:Nat} {p:Pr} (parts:Array (Nat × Operand)) (ho:o.op = .build 113 parts)
  {l:List (Nat × Value)} (hb:BP l d bp bo p) (hl:(parts.map fun (i,x)=>(i,a.eval x)).toList = l) (h:K (a.put o.dst (.agg (prc d bp bo p))) w):o.wp Tryz.prog a w K Q :=
 wp_build 113 parts ho (by rw [hl,hb.h];rfl) (by rw [hl,hb.h];exact h)
theorem kd {o:Oper} {a:Act} {w:World} {K:Act→World→Prop} {Q:Exit→Act→World→Prop} {cs:Array Value} (z:Operand) (ho:o.op = .box 113 z) (hx:a.eval z = .agg cs)
  (h:K (a.put o.dst (.pointer (some ⟨w.heap.size,0,none⟩))) (w.alloc (.cells cs 113))):o.wp Tryz.prog a w K Q:=by
 unfold Oper.wp execOp
 simp only [ho,hx,Sem.run_bind,Instr.box,newVar,newRow,run_newObj_alloc,Sem.run_pure,Result.andThen_ok,Value.cells]
 exact h
theorem fd {o:Oper} {a:Act} {w:World} {K:Act→World→Prop} {Q:Exit→Act→World→Prop} {t kt et:TypeId} {q k:IntKind} {b:Nat} {f:Int→Option Value} (x y z:Operand) (ho:o.op = .mapUpdate t x y z)
  (ht:Tryz.prog.underlying t = some (.map kt et)) (hk:Tryz.prog.underlying kt = some (.int q)) {key:Int} {val:Value} (hx:a.eval x = .map (some b)) (hy:a.eval y = .int k key) (hz:a.eval z = val) (h:MapB w b k f)
  (I:∀w',MapB w' b k (fun y=>if y = key then some val else f y)→Chg [b] w w'→K (a.put o.dst undef) w'):o.wp Tryz.prog a w K Q:=by
 obtain ⟨w',h1,h2,h3⟩:=ww ht hk h key val
 unfold Oper.wp execOp
 simp only [ho,hx,hy,hz,Sem.run_bind,h1,Sem.run_pure,Result.andThen_ok]
 exact I w' h2 h3
end Go.Proofs.YtfoleblcaloeoaaGreatDoor
