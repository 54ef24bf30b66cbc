/- Texts merged for the claim. -/
import Derived.Test.YtfoleblcaloeoaaGreatDoorZbg
set_option maxHeartbeats 40000000
set_option maxRecDepth 20000
namespace Go.Proofs.YtfoleblcaloeoaaGreatDoor
open Go Go.RowKit
structure RelP (p:Pr) (s:Sq):Prop where
 rt:∀q:Nat,q < 1024→s.rt q = Ar.rt p.rl q
 by_:∀a:Int,0≤a→a < 262144→(s.by_ a).getD 0 = (gj p (a / 256)).getD (a % 256).toNat 0
 b8:∀a v,s.by_ a = some v→v < 256
 ow:∀q:Nat,q < 1024→s.ow q = (p.ow q).isSome
 po:∀q:Nat,q < 1024→∀v,p.ow q = some v→s.po q = v
 ak:s.ak = p.pk
 am:s.am = p.pm
def byF (s:Sq):Int→Option Value:=fun z=>(s.by_ z).map fun x=>.int .u8 (x:Nat)
def spv (sp:Nat→Option Nat) (i:Nat):Value:=.pointer ((sp i).map fun b=>⟨b,0,none⟩)
def wmc (c:Cf) (sp:Nat→Option Nat) (vo ve:Value):Array Value:=cg c ++ #[spv sp 0,spv sp 1,spv sp 2,spv sp 3,spv sp 4,spv sp 5,spv sp 6,spv sp 7,spv sp 8,vo,ve]
abbrev WB (w:World) (m:Nat) (c:Cf) (sp:Nat→Option Nat) (vo ve:Value):Prop:=Blk w m 79 (wmc c sp vo ve)
theorem xh (c:Cf) (sp:Nat→Option Nat) (vo ve:Value):(wmc c sp vo ve).size = 105:=by unfold wmc;rw [Array.size_append,ei];rfl
theorem infoW (c:Cf) (sp:Nat→Option Nat) (vo ve:Value):(Tryz.prog.info? 79).map (·.size) = some (wmc c sp vo ve).size:=by
 have h:(Tryz.prog.info? 79).map (·.size) = some 105:=by kernel_rfl
 rw [xh];exact h
section
variable {w:World} {m:Nat} {c:Cf} {sp:Nat→Option Nat} {vo ve:Value}
theorem eZ (i:Nat):(wmc c sp vo ve)[94+i]? = (#[spv sp 0,spv sp 1,spv sp 2,spv sp 3,spv sp 4,spv sp 5,spv sp 6,spv sp 7,spv sp 8,vo,ve]:Array Value)[i]?:=by
 unfold wmc
 rw [Array.getElem?_append_right (by rw [ei];omega),ei,Nat.add_sub_cancel_left]
theorem WB.spc (h:WB w m c sp vo ve) {i:Nat} (hi:i < 9):w.cell? ⟨m,94+i,none⟩ = some (spv sp i):=by
 rw [Blk.cell h,eZ]
 match i,hi with
 | 0,_=>rfl
 | 1,_=>rfl
 | 2,_=>rfl
 | 3,_=>rfl
 | 4,_=>rfl
 | 5,_=>rfl
 | 6,_=>rfl
 | 7,_=>rfl
 | 8,_=>rfl
theorem WB.voc (h:WB w m c sp vo ve):w.cell? ⟨m,103,none⟩ = some vo:=by rw [Blk.cell h,show 103 = 94+9 from rfl,eZ];rfl
theorem WB.vec (h:WB w m c sp vo ve):w.cell? ⟨m,104,none⟩ = some ve:=by rw [Blk.cell h,show 104 = 94+10 from rfl,eZ];rfl
theorem WB.c0 (h:WB w m c sp vo ve):w.cell? ⟨m,0,none⟩ = some (.int .i64 (c 0)):=by
 rw [Blk.cell h];unfold wmc
 rw [Array.getElem?_append_left (by rw [ei];omega)]
 exact ig c (by omega)
theorem WB.load26 (h:WB w m c sp vo ve):(loadVar 26 ⟨m,0,none⟩).run Tryz.prog w = .ok (.agg (cg c)) w:=by
 have hr:w.rangeAt m 0 (cg c).toList:=by
  have:=World.rangeAt_of_block (C:=wmc c sp vo ve) h 0 94
  have e:((wmc c sp vo ve).extract 0 (0+94)).toList = (cg c).toList:=by
   unfold wmc
   rw [show (0+94) = (cg c).size by rw [ei],Array.extract_append_left]
   simp
  rwa [e] at this
 have:=run_loadVar_mid (P:=Tryz.prog) w m 0 26 (cg c).toList _ hr Tryz.underlying26 rfl (by rw [Array.length_toList];exact mh)
 simpa using this
theorem aX (i:Nat) (v:Value):(wmc c sp vo ve).setIfInBounds (94+i) v = cg c ++ (#[spv sp 0,spv sp 1,spv sp 2,spv sp 3,spv sp 4,spv sp 5,spv sp 6,spv sp 7,spv sp 8,vo,ve]:Array Value).setIfInBounds i v:=by
 unfold wmc
 rw [Array.setIfInBounds_append_right (by rw [ei];omega),ei,Nat.add_sub_cancel_left]
theorem WB.set_sp (h:WB w m c sp vo ve) {i:Nat} (hi:i < 9) (o:Option Nat):WB (w.setCell ⟨m,94+i,none⟩ (.pointer (o.map fun b=>⟨b,0,none⟩))) m c (upN sp i o) vo ve:=by
 have:=Blk.set_ h (94+i) (.pointer (o.map fun b=>⟨b,0,none⟩))
 rw [aX] at this
 have e:cg c ++ (#[spv sp 0,spv sp 1,spv sp 2,spv sp 3,spv sp 4,spv sp 5,spv sp 6,spv sp 7,spv sp 8,vo,ve]:Array Value).setIfInBounds i (.pointer (o.map fun b=>⟨b,0,none⟩)) = wmc c (upN sp i o) vo ve:=by
  unfold wmc
  congr 1
  match i,hi with
  | 0,_=>rfl
  | 1,_=>rfl
  | 2,_=>rfl
  | 3,_=>rfl
  | 4,_=>rfl
  | 5,_=>rfl
  | 6,_=>rfl
  | 7,_=>rfl
  | 8,_=>rfl
 rw [e] at this
 exact this
theorem WB.set_vo (h:WB w m c sp vo ve) (v:Value):WB (w.setCell ⟨m,103,none⟩ v) m c sp v ve:=by
 have:=Blk.set_ h (94+9) v
 rw [aX] at this
 exact this
theorem WB.set_ve (h:WB w m c sp vo ve) (v:Value):WB (w.setCell ⟨m,104,none⟩ v) m c sp vo v:=by
 have:=Blk.set_ h (94+10) v
 rw [aX] at this
 exact this
end
structure Ob where
 h:Nat
 l:List Nat
 v:Value
def obl (o:Ob):List Value:=[.int .u64 o.h,o.v]
theorem mq (o:Ob):(obl o).length = 2:=rfl
structure OIn (w:World) (vo:Value) (L:List Ob) (ob:Int→Option (List Nat)):Prop where
 sl:SE obl 2 92 w vo L
 bt:∀o∈L,SB w o.v o.l∧(∀x∈o.l,x < 256)∧o.h < 18446744073709551616
 nd:L.Pairwise fun a b=>a.h≠b.h
 ap:L.Pairwise fun a b=>∀k∈own a.v,k∉own b.v
 lk:∀z:Int,ob z = (L.find? fun o=>decide ((o.h:Int) = z)).map (·.l)
structure EIn (w:World) (ve:Value) (E:List Nat) (ev:Int→Bool):Prop where
 sl:SW w ve E
 e64:∀e∈E,e < 18446744073709551616
 lk:∀z:Int,ev z = E.any fun e=>decide ((e:Int) = z)
structure WIn (w:World) (m:Nat) (M:Mo) (sp:Nat→Option Nat) (vo ve:Value) (L:List Ob) (E:List Nat) (gb gm:Nat→Nat) (gs:Nat→Sq):Prop where
 blk:WB w m M.c sp vo ve
 ob:OIn w vo L M.ob
 ev:EIn w ve E M.ev
 sp:∀n:Nat,n < 9→sp n = (M.pr n).map fun _=>gb n
 rng:∀z p,M.pr z = some p→1≤z∧z≤8
 pr:∀(n:Nat) p,M.pr n = some p→QB w (gb n) (gs n) (gm n)∧MapB w (gm n) .i64 (byF (gs n))∧RelP p (gs n)
 ib:∀(n n':Nat) p p',M.pr n = some p→M.pr n' = some p'→n≠n'→gb n≠gb n'∧gm n≠gm n'
def FW' (M:Mo) (m:Nat) (vo ve:Value) (L:List Ob) (gb gm:Nat→Nat) (k:Nat):Prop :=
 k = m∨k∈own vo∨k∈own ve∨(∃o∈L,k∈own o.v)∨∃n p,M.pr (n:Nat) = some p∧(k = gb n∨k = gm n)
theorem SE.cp {α:Type} {enc:α→List Value} {size:Nat} {e:TypeId} {F:Nat→Prop} {w w':World} {v:Value} {l:List α} (h:SE enc size e w v l) (hc:CP F w w') (hg:∀k∈own v,¬ F k):SE enc size e w' v l:=by
 obtain ⟨G,h1,h2⟩:=hc.avoid (own v) hg h.own_lt
 exact h.chg h1 h2
theorem OIn.cp {F:Nat→Prop} {w w':World} {vo:Value} {L:List Ob} {ob:Int→Option (List Nat)} (h:OIn w vo L ob) (hc:CP F w w') (h1:∀k∈own vo,¬ F k) (h2:∀o∈L,∀k∈own o.v,¬ F k):OIn w' vo L ob :=
 ⟨h.sl.cp hc h1,fun o ho=>⟨SB.cp (h.bt o ho).1 hc (h2 o ho),(h.bt o ho).2⟩,h.nd,h.ap,h.lk⟩
theorem EIn.cp {F:Nat→Prop} {w w':World} {ve:Value} {E:List Nat} {ev:Int→Bool} (h:EIn w ve E ev) (hc:CP F w w') (h1:∀k∈own ve,¬ F k):EIn w' ve E ev :=
 ⟨SE.cp h.sl hc h1,h.e64,h.lk⟩
theorem WIn.cp {G:Nat→Prop} {w w':World} {m:Nat} {M:Mo} {sp:Nat→Option Nat} {vo ve:Value} {L:List Ob} {E:List Nat} {gb gm:Nat→Nat} {gs:Nat→Sq} (h:WIn w m M sp vo ve L E gb gm gs) (hc:CP G w w') (hg:∀k,FW' M m vo ve L gb gm k→¬ G k):WIn w' m M sp vo ve L E gb gm gs :=
 { blk:=Blk.cp h.blk hc (hg _ (.inl rfl)),ob:=h.ob.cp hc (fun k hk=>hg k (.inr (.inl hk))) (fun o ho k hk=>hg k (.inr (.inr (.inr (.inl ⟨o,ho,hk⟩))))),ev:=h.ev.cp hc (fun k hk=>hg k (.inr (.inr (.inl hk)))),sp:=h.sp,rng:=h.rng,
   pr:=fun n p hp=>⟨Blk.cp (h.pr n p hp).1 hc (hg _ (.inr (.inr (.inr (.inr ⟨n,p,hp,.inl rfl⟩))))),(h.pr n p hp).2.1.cp hc (hg _ (.inr (.inr (.inr (.inr ⟨n,p,hp,.inr rfl⟩))))),(h.pr n p hp).2.2⟩,ib:=h.ib }
theorem WIn.stay {w w':World} {m:Nat} {M:Mo} {sp:Nat→Option Nat} {vo ve:Value} {L:List Ob} {E:List Nat} {gb gm:Nat→Nat} {gs:Nat→Sq} (h:WIn w m M sp vo ve L E gb gm gs) (hc:Chg [] w w'):WIn w' m M sp vo ve L E gb gm gs:=h.cp (CP.of0 (F:=fun _=>False) hc) (fun _ _ h=>h)
theorem dd (e:Int) (w:World):Calls Tryz.prog 75 #[.int .i64 e] w fun e' w'=>e' = .returned (.agg (rsc (aq e) zV))∧Chg [] w w':=by
 have HB:=ah (br_e e)
 go_enter Tryz.func75,Tryz.ntmps75
 go_wp2_with (first|refine bn rfl rfl ?_;try go_simp|refine bx rfl _ rfl HB.out ?_ ?_;(focus (simp [Act.eval];done))|refine au (b:=w.heap.size) (y:=aq e) (u:=zV) rfl _ _ rfl rfl rfl rfl (Blk.new w _ _) ?_;intro W4 h4 jT)
 refine bodyPost_ret (v:=.agg (rsc (aq e) zV)) (results_cell_row (p:=2) (ty:=40) rfl _ _ w.heap.size 40 _ (0,0) _ rfl h4 Tryz.underlying40 rfl ct) rfl ⟨rfl,vi jT⟩
theorem bK {k m:Nat} (hk:k < 256) (hm:m < 256) (w:World):Calls Tryz.prog 106 #[.agg #[.int .u8 k,.int .u8 m]] w fun e w'=>e = .returned (.int .u64 ((k * 256+m:Nat):Int))∧Chg [] w w':=by
 obtain ⟨W1,jG⟩:∃W1,W1 = w.alloc (.cells #[.int .u8 k,.int .u8 m] 45):=⟨_,rfl⟩
 have jH:Chg [] w W1:=by rw [jG];exact (Chg.refl [] w).alloc _
 have hb:PolB W1 w.heap.size k m:=by rw [jG];exact Blk.new w _ _
 have q0:W1.cell? ⟨w.heap.size,0,none⟩ = some (.int .u8 k):=hb.cell 0
 have q1:W1.cell? ⟨w.heap.size,1,none⟩ = some (.int .u8 m):=hb.cell 1
 have ql:=hb.lt
 have w1:IntKind.u64.wrap (k:Int) = (k:Int):=by rw [IntKind.wrap_u64];omega
 have w2:IntKind.u64.wrap (m:Int) = (m:Int):=by rw [IntKind.wrap_u64];omega
 have w3:IntKind.u64.wrap ((k:Int) * 256) = (k:Int) * 256:=by rw [IntKind.wrap_u64];omega
 have w4:IntKind.u64.wrap ((k:Int) * 256+(m:Int)) = (k:Int) * 256+(m:Int):=by rw [IntKind.wrap_u64];omega
 have HC:=ah jH
 have kW:=ah jG
 have e4:(k:Int) * 256+(m:Int) = ((k * 256+m:Nat):Int):=by omega
 have E4:=ah e4
 clear hb jH jG e4 hk hm
 go_enter Tryz.func106,Tryz.ntmps106
 go_wp2_with (first|refine Great.wpList_runTo rfl (.pointer (some ⟨w.heap.size,0,none⟩)) rfl W1 _ (by unfold execOp;simp [Act.eval,Instr.box,newVar,newRow,run_newObj_alloc,Sem.run_bind,Sem.run_pure,Result.andThen_ok,Value.cells,kW.out];done) ?_)
 go_ret
 exact ⟨congrArg Ending.returned (congrArg (Value.int IntKind.u64) E4.out),(Chg.refl [] w).alloc _⟩
theorem sg (k:Nat) (w:World):Calls Tryz.prog 38 #[.int .u8 k] w fun e w'=>e = .returned (.bool (k == 10 || k == 17))∧w = w':=by
 obtain ⟨R,hR⟩:∃R,R = (k == 10 || k == 17):=⟨_,rfl⟩
 rw [← hR]
 obtain ⟨z,hz⟩:∃z:Int,z = (k:Int):=⟨_,rfl⟩
 rw [← hz]
 have HR:=ah hR
 have HZ:=ah hz
 clear hR hz
 by_cases h1:z = 10
 ·obtain rfl:R = true:=by rw [HR.out,show k = 10 by have:=HZ.out;omega];rfl
  subst h1
  go_enter Tryz.func38,Tryz.ntmps38
  go_wp2_with fail
  go_ret
  exact ⟨rfl,rfl⟩
 have d1:(z == 10) = false:=beq_false_of_ne h1
 by_cases h2:z = 17
 ·obtain rfl:R = true:=by rw [HR.out,show k = 17 by have:=HZ.out;omega];rfl
  subst h2
  go_enter Tryz.func38,Tryz.ntmps38
  go_wp2_with fail
  go_ret
  exact ⟨rfl,rfl⟩
 have d2:(z == 17) = false:=beq_false_of_ne h2
 obtain rfl:R = false:=by rw [HR.out,beq_false_of_ne (show k≠10 by have:=HZ.out;omega),beq_false_of_ne (show k≠17 by have:=HZ.out;omega)];rfl
 clear h1 h2
 go_enter Tryz.func38,Tryz.ntmps38
 go_wp2_with fail
 go_ret
 exact ⟨rfl,rfl⟩
theorem iR (k:Nat) (e:Int) (w:World):Calls Tryz.prog 35 #[.int .u8 k,.int .i64 e] w fun e' w'=>e' = .returned (.bool (eh k e))∧w = w':=by
 obtain ⟨R,hR⟩:∃R,R = eh k e:=⟨_,rfl⟩
 rw [← hR]
 obtain ⟨z,hz⟩:∃z:Int,z = (k:Int):=⟨_,rfl⟩
 rw [← hz]
 have HR:=ah hR
 have HZ:=ah hz
 clear hR hz
 by_cases e4:e = 40
 ·subst e4
  by_cases h6:z = 6
  ·have hk:k = 6:=by have:=HZ.out;omega
   have HK:=ah hk
   subst h6
   clear hk
   obtain rfl:R = true:=by rw [HR.out];unfold eh;rw [HK.out];simp
   go_enter Tryz.func35,Tryz.ntmps35
   go_wp2_with fail
   go_ret
   exact ⟨rfl,rfl⟩
  have d6:(z == 6) = false:=beq_false_of_ne h6
  by_cases h8:z = 8
  ·have hk:k = 8:=by have:=HZ.out;omega
   have HK:=ah hk
   subst h8
   clear hk
   obtain rfl:R = true:=by rw [HR.out];unfold eh;rw [HK.out];simp
   go_enter Tryz.func35,Tryz.ntmps35
   go_wp2_with fail
   go_ret
   exact ⟨rfl,rfl⟩
  have d8:(z == 8) = false:=beq_false_of_ne h8
  by_cases h9:z = 9
  ·have hk:k = 9:=by have:=HZ.out;omega
   have HK:=ah hk
   subst h9
   clear hk
   obtain rfl:R = true:=by rw [HR.out];unfold eh;rw [HK.out];simp
   go_enter Tryz.func35,Tryz.ntmps35
   go_wp2_with fail
   go_ret
   exact ⟨rfl,rfl⟩
  have d9:(z == 9) = false:=beq_false_of_ne h9
  by_cases h1:z = 1
  ·have hk:k = 1:=by have:=HZ.out;omega
   have HK:=ah hk
   subst h1
   clear hk
   obtain rfl:R = false:=by rw [HR.out];unfold eh;rw [HK.out];simp
   go_enter Tryz.func35,Tryz.ntmps35
   go_wp2_with fail
   go_ret
   exact ⟨rfl,rfl⟩
  have d1:(z == 1) = false:=beq_false_of_ne h1
  by_cases kK:z = 10
  ·have hk:k = 10:=by have:=HZ.out;omega
   have HK:=ah hk
   subst kK
   clear hk
   obtain rfl:R = false:=by rw [HR.out];unfold eh;rw [HK.out];simp
   go_enter Tryz.func35,Tryz.ntmps35
   go_wp2_with fail
   go_ret
   exact ⟨rfl,rfl⟩
  have d10:(z == 10) = false:=beq_false_of_ne kK
  by_cases h18:z = 18
  ·have hk:k = 18:=by have:=HZ.out;omega
   have HK:=ah hk
   subst h18
   clear hk
   obtain rfl:R = false:=by rw [HR.out];unfold eh;rw [HK.out];simp
   go_enter Tryz.func35,Tryz.ntmps35
   go_wp2_with fail
   go_ret
   exact ⟨rfl,rfl⟩
  have d18:(z == 18) = false:=beq_false_of_ne h18
  have Fm:=ah (show k≠6∧k≠8∧k≠9∧k≠1∧k≠10∧k≠18 by have:=HZ.out;omega)
  clear h6 h8 h9 h1 kK h18
  obtain rfl:R = false:=by rw [HR.out];unfold eh;obtain ⟨a1,a2,a3,a4,a5,a6⟩:=Fm.out;simp [a1,a2,a3,a4,a5,a6]
  go_enter Tryz.func35,Tryz.ntmps35
  go_wp2_with fail
  go_ret
  exact ⟨rfl,rfl⟩
 have f4:(e == 40) = false:=beq_false_of_ne e4
 by_cases e6:e = 6
 ·subst e6
  clear e4
  by_cases h6:z = 6
  ·have hk:k = 6:=by have:=HZ.out;omega
   have HK:=ah hk
   subst h6
   clear hk
   obtain rfl:R = true:=by rw [HR.out];unfold eh;rw [HK.out];simp
   go_enter Tryz.func35,Tryz.ntmps35
   go_wp2_with fail
   go_ret
   exact ⟨rfl,rfl⟩
  have d6:(z == 6) = false:=beq_false_of_ne h6
  by_cases h8:z = 8
  ·have hk:k = 8:=by have:=HZ.out;omega
   have HK:=ah hk
   subst h8
   clear hk
   obtain rfl:R = true:=by rw [HR.out];unfold eh;rw [HK.out];simp
   go_enter Tryz.func35,Tryz.ntmps35
   go_wp2_with fail
   go_ret
   exact ⟨rfl,rfl⟩
  have d8:(z == 8) = false:=beq_false_of_ne h8
  by_cases h9:z = 9
  ·have hk:k = 9:=by have:=HZ.out;omega
   have HK:=ah hk
   subst h9
   clear hk
   obtain rfl:R = true:=by rw [HR.out];unfold eh;rw [HK.out];simp
   go_enter Tryz.func35,Tryz.ntmps35
   go_wp2_with fail
   go_ret
   exact ⟨rfl,rfl⟩
  have d9:(z == 9) = false:=beq_false_of_ne h9
  by_cases h1:z = 1
  ·have hk:k = 1:=by have:=HZ.out;omega
   have HK:=ah hk
   subst h1
   clear hk
   obtain rfl:R = true:=by rw [HR.out];unfold eh;rw [HK.out];simp
   go_enter Tryz.func35,Tryz.ntmps35
   go_wp2_with fail
   go_ret
   exact ⟨rfl,rfl⟩
  have d1:(z == 1) = false:=beq_false_of_ne h1
  by_cases kK:z = 10
  ·have hk:k = 10:=by have:=HZ.out;omega
   have HK:=ah hk
   subst kK
   clear hk
   obtain rfl:R = true:=by rw [HR.out];unfold eh;rw [HK.out];simp
   go_enter Tryz.func35,Tryz.ntmps35
   go_wp2_with fail
   go_ret
   exact ⟨rfl,rfl⟩
  have d10:(z == 10) = false:=beq_false_of_ne kK
  by_cases h18:z = 18
  ·have hk:k = 18:=by have:=HZ.out;omega
   have HK:=ah hk
   subst h18
   clear hk
   obtain rfl:R = true:=by rw [HR.out];unfold eh;rw [HK.out];simp
   go_enter Tryz.func35,Tryz.ntmps35
   go_wp2_with fail
   go_ret
   exact ⟨rfl,rfl⟩
  have d18:(z == 18) = false:=beq_false_of_ne h18
  have Fm:=ah (show k≠6∧k≠8∧k≠9∧k≠1∧k≠10∧k≠18 by have:=HZ.out;omega)
  clear h6 h8 h9 h1 kK h18
  obtain rfl:R = false:=by rw [HR.out];unfold eh;obtain ⟨a1,a2,a3,a4,a5,a6⟩:=Fm.out;simp [a1,a2,a3,a4,a5,a6]
  go_enter Tryz.func35,Tryz.ntmps35
  go_wp2_with fail
  go_ret
  exact ⟨rfl,rfl⟩
 have f6:(e == 6) = false:=beq_false_of_ne e6
 have HE:=ah (And.intro e4 e6)
 clear e4 e6
 by_cases h6:z = 6
 ·have hk:k = 6:=by have:=HZ.out;omega
  have HK:=ah hk
  subst h6
  clear hk
  obtain rfl:R = false:=by rw [HR.out];unfold eh;rw [HK.out];simp [HE.out.1,HE.out.2]
  go_enter Tryz.func35,Tryz.ntmps35
  go_wp2_with fail
  go_ret
  exact ⟨rfl,rfl⟩
 have d6:(z == 6) = false:=beq_false_of_ne h6
 by_cases h8:z = 8
 ·have hk:k = 8:=by have:=HZ.out;omega
  have HK:=ah hk
  subst h8
  clear hk
  obtain rfl:R = false:=by rw [HR.out];unfold eh;rw [HK.out];simp [HE.out.1,HE.out.2]
  go_enter Tryz.func35,Tryz.ntmps35
  go_wp2_with fail
  go_ret
  exact ⟨rfl,rfl⟩
 have d8:(z == 8) = false:=beq_false_of_ne h8
 by_cases h9:z = 9
 ·have hk:k = 9:=by have:=HZ.out;omega
  have HK:=ah hk
  subst h9
  clear hk
  obtain rfl:R = false:=by rw [HR.out];unfold eh;rw [HK.out];simp [HE.out.1,HE.out.2]
  go_enter Tryz.func35,Tryz.ntmps35
  go_wp2_with fail
  go_ret
  exact ⟨rfl,rfl⟩
 have d9:(z == 9) = false:=beq_false_of_ne h9
 by_cases h1:z = 1
 ·have hk:k = 1:=by have:=HZ.out;omega
  have HK:=ah hk
  subst h1
  clear hk
  obtain rfl:R = false:=by rw [HR.out];unfold eh;rw [HK.out];simp [HE.out.1,HE.out.2]
  go_enter Tryz.func35,Tryz.ntmps35
  go_wp2_with fail
  go_ret
  exact ⟨rfl,rfl⟩
 have d1:(z == 1) = false:=beq_false_of_ne h1
 by_cases kK:z = 10
 ·have hk:k = 10:=by have:=HZ.out;omega
  have HK:=ah hk
  subst kK
  clear hk
  obtain rfl:R = false:=by rw [HR.out];unfold eh;rw [HK.out];simp [HE.out.1,HE.out.2]
  go_enter Tryz.func35,Tryz.ntmps35
  go_wp2_with fail
  go_ret
  exact ⟨rfl,rfl⟩
 have d10:(z == 10) = false:=beq_false_of_ne kK
 by_cases h18:z = 18
 ·have hk:k = 18:=by have:=HZ.out;omega
  have HK:=ah hk
  subst h18
  clear hk
  obtain rfl:R = false:=by rw [HR.out];unfold eh;rw [HK.out];simp [HE.out.1,HE.out.2]
  go_enter Tryz.func35,Tryz.ntmps35
  go_wp2_with fail
  go_ret
  exact ⟨rfl,rfl⟩
 have d18:(z == 18) = false:=beq_false_of_ne h18
 have Fm:=ah (show k≠6∧k≠8∧k≠9∧k≠1∧k≠10∧k≠18 by have:=HZ.out;omega)
 clear h6 h8 h9 h1 kK h18
 obtain rfl:R = false:=by rw [HR.out];unfold eh;obtain ⟨a1,a2,a3,a4,a5,a6⟩:=Fm.out;simp [a1,a2,a3,a4,a5,a6]
 go_enter Tryz.func35,Tryz.ntmps35
 go_wp2_with fail
 go_ret
 exact ⟨rfl,rfl⟩
theorem SE.max {α:Type} {enc:α→List Value} {size:Nat} {e:TypeId} {w:World} {v:Value} {l:List α} (h:SE enc size e w v l):l.length≤9223372036854775807:=by
 obtain ⟨_,⟨rfl,e2⟩ | ⟨g,off,cap,cur,rfl,hg,hn,hm,_⟩⟩:=h
 ·omega
 ·unfold maxLen at hm;omega
section
variable {w:World} {m:Nat} {M:Mo} {sp:Nat→Option Nat} {vo ve:Value} {L:List Ob} {E:List Nat} {gb gm:Nat→Nat} {gs:Nat→Sq}
theorem WIn.sp_at (h:WIn w m M sp vo ve L E gb gm gs) {n:Nat} (hn:n < 9):w.cell? ⟨m,94+n,none⟩ = some (.pointer ((M.pr n).map fun _=>⟨gb n,0,none⟩)):=by
 rw [WB.spc h.blk hn]
 unfold spv
 rw [h.sp n hn]
 cases M.pr n <;> rfl
theorem WIn.none_at (h:WIn w m M sp vo ve L E gb gm gs) {z:Int} (hz:z < 1∨8 < z):M.pr z = none:=by
 cases hp:M.pr z with
 | none=>rfl
 | some p=>have:=h.rng z p hp;omega
theorem gK (h:WIn w m M sp vo ve L E gb gm gs) (pid:Int):Calls Tryz.prog 40 #[.pointer (some ⟨m,0,none⟩),.int .i64 pid] w fun e w'=>e = .returned (.pointer ((M.pr pid).map fun _=>⟨gb pid.toNat,0,none⟩))∧w = w':=by
 by_cases h1:pid < 1
 ·have e:M.pr pid = none:=h.none_at (.inl h1)
  rw [e]
  have d1:decide (pid < 1) = true:=ae h1
  clear h e h1
  go_enter Tryz.func40,Tryz.ntmps40
  go_wp2_with fail
  go_ret
  exact ⟨rfl,rfl⟩
 by_cases h8:8 < pid
 ·have e:M.pr pid = none:=h.none_at (.inr h8)
  rw [e]
  have d1:decide (pid < 1) = false:=ac h1
  have d2:decide (8 < pid) = true:=ae h8
  clear h e h1 h8
  go_enter Tryz.func40,Tryz.ntmps40
  go_wp2_with fail
  go_ret
  exact ⟨rfl,rfl⟩
 obtain ⟨n,rfl⟩:∃n:Nat,pid = n:=⟨pid.toNat,by omega⟩
 have q:=h.sp_at (n:=n) (by omega)
 rw [Int.toNat_natCast]
 have d1:decide ((n:Int) < 1) = false:=ac h1
 have d1':n≠0:=by omega
 have d2:decide (8 < (n:Int)) = false:=ac h8
 have d2':decide (8 < n) = false:=ac (by omega)
 have i0:(0:Int)≤(n:Int):=by omega
 have i1:(n:Int) < 9:=by omega
 have ql:=Blk.lt h.blk
 obtain ⟨v,hv⟩:∃v,v = ((M.pr n).map fun _=>(⟨gb n,0,none⟩:Addr)):=⟨_,rfl⟩
 rw [← hv] at q ⊢
 clear h h1 h8 hv
 go_enter Tryz.func40,Tryz.ntmps40
 go_wp2_with fail
 go_ret
 exact ⟨rfl,rfl⟩
theorem qh (h:WIn w m M sp vo ve L E gb gm gs) (z:Nat):Calls Tryz.prog 39 #[.pointer (some ⟨m,0,none⟩),.int .u64 z] w fun e w'=>e = .returned (.bool (M.ev z))∧w = w':=by
 have q:=WB.vec h.blk
 have ql:=Blk.lt h.blk
 have HS:=ah h.ev.sl.re
 have rA:=ah (h.ev.lk z)
 have xU:=ah (SE.max h.ev.sl)
 obtain ⟨A,c,rfl⟩:=SE.form h.ev.sl
 obtain ⟨R,hR⟩:∃R,R = M.ev z:=⟨_,rfl⟩
 rw [← hR] at rA ⊢
 obtain ⟨zz,zX⟩:∃y:Int,y = (z:Int):=⟨_,rfl⟩
 rw [← zX] at rA ⊢
 clear h hR zX
 go_enter Tryz.func39,Tryz.ntmps39
 go_wp2_with fail
 go_loopw [5] (fun i wr=>wr = w∧∃k:Nat,k≤E.length∧i = .int .i64 k∧Hid ((E.take k).any (fun e=>decide ((e:Int) = zz)) = false)) (fun i _=>E.length - (intOf i).toNat)
 case atStart=>exact ⟨rfl,0,by omega,rfl,ah rfl⟩
 case round =>
  obtain ⟨rfl,k,hk,rfl,jZ⟩:=hrel
  by_cases hkl:k < E.length
  ·obtain ⟨g,off,rfl⟩:=RE.addr HS.out (show 0 < E.length by omega)
   have q1:wr.cell? ⟨g,off+k,none⟩ = some (.int .u64 E[k]):=by simpa using RE.cell rq HS.out hkl (j:=0) (u:=.int .u64 E[k]) (by omega) rfl
   obtain ⟨x,hx⟩:∃x:Int,x = (E[k]:Int):=⟨_,rfl⟩
   rw [← hx] at q1
   have HX:=ah hx
   have pL:=xU.out
   have dl:decide ((k:Int) < (E.length:Int)) = true:=ae (by omega)
   have dl':decide (k < E.length) = true:=ae hkl
   have i0:(0:Int)≤(k:Int):=by omega
   have i1:(k:Int) < (E.length:Int):=by omega
   have mS:IntKind.i64.wrap ((k:Int)+1) = (k:Int)+1:=by rw [IntKind.wrap_i64];omega
   have lZ:=ah hkl
   have mI:=ah jZ.out
   clear hx hk jZ pL
   by_cases he:x = zz
   ·have de:(x == zz) = true:=by rw [he];simp
    obtain rfl:R = true:=by
     rw [rA.out]
     exact List.any_eq_true.2 ⟨_,List.getElem_mem lZ.out,ae (by rw [← HX.out];exact he)⟩
    clear he
    go_wp2_with fail
    go_ret
    exact ⟨rfl,rfl⟩
   ·have de:(x == zz) = false:=beq_false_of_ne he
    have HE:=ah he
    clear he
    go_wp2_with fail
    go_roundw
    case rel=>exact ⟨trivial,k+1,by have:=lZ.out;omega,by go_num,ah (by rw [List.take_succ_eq_append_getElem lZ.out,List.any_append,mI.out,Bool.false_or,List.any_cons,List.any_nil,Bool.or_false,← HX.out];exact ac HE.out)⟩
    case measure=>have:=lZ.out;simp [intOf];omega
  ·obtain rfl:k = E.length:=by omega
   obtain rfl:R = false:=by rw [rA.out];have:=jZ.out;rw [List.take_length] at this;exact this
   clear jZ
   go_wp2_with fail
   go_ret
   exact ⟨rfl,rfl⟩
end
open Ar (pg oq ij qk uf ws)
theorem gD:pg (fun _=>0) = Array.replicate 1024 (.int .u8 0):=by
 apply Array.ext_getElem?
 intro j
 by_cases hj:j < 1024
 ·rw [oq _ hj];simp [hj]
 ·rw [Array.getElem?_eq_none (by rw [ij];omega),Array.getElem?_eq_none (by simp;omega)]
theorem zeroA:∀w,(zeroValue 95).run Tryz.prog w = .ok (.agg (pg (fun _=>0))) w:=by
 have h:(Tryz.prog.info? 95).map (fun i=>(i.zero,i.size)) = some (some (.agg (Array.replicate 1024 (.int .u8 0))),1024):=by kernel_rfl
 rw [gD]
 exact (zero_of_info h).1
theorem eK (w:World):(Instr.alloc 95 true (.tuple #[])).run Tryz.prog w = .ok (.pointer (some ⟨w.heap.size,0,none⟩)) (w.alloc (.cells (pg (fun _=>0)) 95)):=by
 have e:Tryz.zeroCells95 = pg (fun _=>0):=by rw [gD];kernel_rfl
 simp [Instr.alloc,Sem.run_bind,zeroA,newVar,newRow,run_newObj_alloc,Value.cells,e]
section
variable {ops:Array Oper} {rest:List Oper} {o:Oper} {a:Act} {w:World} {Q:Exit→Act→World→Prop} {b:Nat} {f g:Int→Int} {s:Sq} {bm:Nat}
theorem nc (hg:o.guard = none) (ho:o.op = .alloc 95)
  (h:∀w',PA w' w.heap.size (fun _=>0)→Chg [] w w'→wpList Tryz.prog ops Q rest (a.put o.dst (.pointer (some ⟨w.heap.size,0,none⟩))) w'):wpList Tryz.prog ops Q (o :: rest) a w :=
 Great.wpList_runTo hg _ rfl _ _ (by unfold execOp;simp only [ho,Sem.run_bind,eK,Sem.run_pure,Result.andThen_ok]) (h _ (Blk.new w _ _) ((Chg.refl [] w).alloc _))
theorem jd (hg:o.guard = none) (x:Operand) (ho:o.op = .load 95 x) (hx:a.eval x = .pointer (some ⟨b,0,none⟩)) (h0:PA w b f) (h:wpList Tryz.prog ops Q rest (a.put o.dst (.agg (pg f))) w):wpList Tryz.prog ops Q (o :: rest) a w :=
 wpList_load_row hg 95 x ho b hx 95 (pg f) (0,0) _ h0 Tryz.underlying95 rfl infoA h
theorem nh (hg:o.guard = none) (x y:Operand) (ho:o.op = .store 95 x y) (hx:a.eval x = .pointer (some ⟨b,0,none⟩)) (hy:a.eval y = .agg (pg g)) (h0:PA w b f)
  (h:∀w',PA w' b g→Chg [b] w w'→wpList Tryz.prog ops Q rest (a.put o.dst undef) w'):wpList Tryz.prog ops Q (o :: rest) a w :=
 wpList_store_row hg 95 x y ho b (pg g) hx hy 95 (pg f) h0 infoA (by rw [ij,ij]) (ws g) (h _ (setRow_heap w b _ _ _ _ h0) ((Chg.refl [b] w).setRow (.inl (by simp)) _))
theorem QB.range (h:QB w b s bm):w.rangeAt b 0 (pg s.rt).toList:=fun j v hv=>by
 have hj:j < 1024:=by have:=(List.getElem?_eq_some_iff.1 hv).1;rw [Array.length_toList,ij] at this;exact this
 rw [Nat.zero_add,QB.rt h hj]
 rw [Array.getElem?_toList,oq _ hj] at hv
 exact hv
theorem ou (hg:o.guard = none) (x:Operand) (ho:o.op = .load 95 x) (hx:a.eval x = .pointer (some ⟨b,0,none⟩)) (h0:QB w b s bm) (h:wpList Tryz.prog ops Q rest (a.put o.dst (.agg (pg s.rt))) w):wpList Tryz.prog ops Q (o :: rest) a w :=
 gc hg x ho hx (by
  have:=run_loadVar_mid (P:=Tryz.prog) w b 0 95 (pg s.rt).toList _ (QB.range h0) Tryz.underlying95 rfl (by rw [Array.length_toList];exact infoA)
  simpa using this) h
theorem QB.set_rts (h:QB w b s bm):QB (w.setCells b 0 (pg f).toList) b { s with rt:=f } bm:=by
 have:=tk (t:=100) (pg f).toList 0 w _ h
 rw [vn (g:=sqv { s with rt:=f } bm) fun q hq=>?_] at this
 ·exact this
 ·rw [Array.length_toList,ij,Nat.zero_add,Nat.sub_zero]
  by_cases c1:q < 1024
  ·rw [if_pos (by omega),List.getD_eq_getElem?_getD,Array.getElem?_toList,oq _ c1]
   unfold sqv
   rw [if_pos c1];rfl
  ·rw [if_neg (by omega)]
   unfold sqv
   rw [if_neg c1,if_neg c1]
theorem ni (hg:o.guard = none) (x y:Operand) (ho:o.op = .store 95 x y) (hx:a.eval x = .pointer (some ⟨b,0,none⟩)) (hy:a.eval y = .agg (pg f)) (h0:QB w b s bm)
  (h:∀w',QB w' b { s with rt:=f } bm→Chg [b] w w'→wpList Tryz.prog ops Q rest (a.put o.dst undef) w'):wpList Tryz.prog ops Q (o :: rest) a w :=
 wpList_store_mid hg 95 x y ho b 0 (pg f) hx hy (fun j hj=>by
  rw [ij] at hj
  rw [Nat.zero_add]
  exact ⟨by rw [QB.rt h0 hj];rfl,Blk.frozen h0 j⟩) infoA (ws f) (h _ (QB.set_rts h0) (Chg.setCells _ 0 w (Chg.refl [b] w) (.inl (by simp))))
end
theorem vt {w:World} {m:Nat} {M:Mo} {sp:Nat→Option Nat} {vo ve:Value} {L:List Ob} {E:List Nat} {gb gm:Nat→Nat} {gs:Nat→Sq} (h:WIn w m M sp vo ve L E gb gm gs) (z:Nat) :
  Calls Tryz.prog 41 #[.pointer (some ⟨m,0,none⟩),.int .u64 z] w fun e w'=>((e = .returned (.int .i64 (-1))∧∀o∈L,o.h≠z)∨∃k:Nat,e = .returned (.int .i64 k)∧∃hk:k < L.length,L[k].h = z)∧w = w':=by
 have q:=WB.voc h.blk
 have ql:=Blk.lt h.blk
 have HS:=ah h.ob.sl.re
 have xU:=ah (SE.max h.ob.sl)
 obtain ⟨A,c,rfl⟩:=SE.form h.ob.sl
 obtain ⟨zz,zX⟩:∃y:Int,y = (z:Int):=⟨_,rfl⟩
 rw [← zX]
 have HZ:=ah zX
 clear h zX
 go_enter Tryz.func41,Tryz.ntmps41
 go_wp2_with fail
 go_loopw [5] (fun i wr=>wr = w∧∃k:Nat,k≤L.length∧i = .int .i64 k∧Hid (∀o∈L.take k,o.h≠z)) (fun i _=>L.length - (intOf i).toNat)
 case atStart=>exact ⟨rfl,0,by omega,rfl,ah (fun o ho=>by cases ho)⟩
 case round =>
  obtain ⟨rfl,k,hk,rfl,jZ⟩:=hrel
  by_cases hkl:k < L.length
  ·obtain ⟨g,off,rfl⟩:=RE.addr HS.out (show 0 < L.length by omega)
   have q1:wr.cell? ⟨g,off+k * 2,none⟩ = some (.int .u64 L[k].h):=by simpa using RE.cell mq HS.out hkl (j:=0) (u:=.int .u64 L[k].h) (by omega) rfl
   obtain ⟨x,hx⟩:∃x:Int,x = (L[k].h:Int):=⟨_,rfl⟩
   rw [← hx] at q1
   have HX:=ah hx
   have pL:=xU.out
   have dl:decide ((k:Int) < (L.length:Int)) = true:=ae (by omega)
   have dl':decide (k < L.length) = true:=ae hkl
   have i0:(0:Int)≤(k:Int):=by omega
   have i1:(k:Int) < (L.length:Int):=by omega
   have mS:IntKind.i64.wrap ((k:Int)+1) = (k:Int)+1:=by rw [IntKind.wrap_i64];omega
   have lZ:=ah hkl
   have mI:=ah jZ.out
   clear hx hk jZ pL
   by_cases he:x = zz
   ·have de:(x == zz) = true:=by rw [he];simp
    have HE:=ah he
    clear he
    go_wp2_with fail
    go_ret
    exact ⟨.inr ⟨k,rfl,lZ.out,by have h1:=HX.out;have h2:=HE.out;have h3:=HZ.out;omega⟩,rfl⟩
   ·have de:(x == zz) = false:=beq_false_of_ne he
    have HE:=ah he
    clear he
    go_wp2_with fail
    go_roundw
    case rel=>exact ⟨trivial,k+1,by have:=lZ.out;omega,by go_num,ah (fun o ho=>by
     rw [List.take_succ_eq_append_getElem lZ.out] at ho
     rcases List.mem_append.1 ho with ho | ho
     ·exact mI.out o ho
     ·obtain rfl:=aa ho
      intro e
      exact HE.out (by rw [HX.out,HZ.out,e]))⟩
    case measure=>have:=lZ.out;simp [intOf];omega
  ·obtain rfl:k = L.length:=by omega
   have mI:=ah jZ.out
   clear jZ
   go_wp2_with fail
   go_ret
   exact ⟨.inl ⟨rfl,by have:=mI.out;rw [List.take_length] at this;exact this⟩,rfl⟩
theorem ip {w:World} {b:Nat} {s:Sq} {bm:Nat} (h:QB w b s bm) {p c:Nat} (hp:p+c≤1024) :
  Calls Tryz.prog 108 #[.pointer (some ⟨b,0,none⟩),.int .i64 p,.int .i64 c] w fun e w'=>((e = .returned (.bool true)∧∀q:Nat,p≤q→q < p+c→s.rt q≠0)∨(e = .returned (.bool false)∧∃q:Nat,p≤q∧q < p+c∧s.rt q = 0))∧w = w':=by
 have H:=ah h
 have ql:=Blk.lt h
 have hwe:IntKind.i64.wrap ((p:Int)+(c:Int)) = (p:Int)+(c:Int):=by rw [IntKind.wrap_i64];omega
 have HP:=ah hp
 clear h hp
 go_enter Tryz.func108,Tryz.ntmps108
 go_wp2_with fail
 go_loopw [7] (fun i wr=>wr = w∧∃k:Nat,k≤c∧i = .int .i64 ((p+k:Nat):Int)∧Hid (∀q:Nat,p≤q→q < p+k→s.rt q≠0)) (fun i _=>p+c - (intOf i).toNat)
 case atStart=>exact ⟨rfl,0,by omega,by simp,ah (fun q h1 h2=>by omega)⟩
 case round =>
  obtain ⟨rfl,k,hk,rfl,jX⟩:=hrel
  have pF:=ah jX.out
  clear jX
  by_cases hkc:k < c
  ·have q1:=QB.rt H.out (i:=p+k) (by have:=HP.out;omega)
   obtain ⟨x,hx⟩:∃x,x = s.rt ((p+k:Nat):Int):=⟨_,rfl⟩
   rw [← hx] at q1
   have HX:=ah hx
   have dl:decide (((p+k:Nat):Int) < (p:Int)+(c:Int)) = true:=ae (by omega)
   have i0:(0:Int)≤((p+k:Nat):Int):=by omega
   have i1:((p+k:Nat):Int) < 1024:=by have:=HP.out;omega
   have mS:IntKind.i64.wrap (((p+k:Nat):Int)+1) = ((p+k:Nat):Int)+1:=by rw [IntKind.wrap_i64];omega
   have HKC:=ah hkc
   obtain ⟨n,hn⟩:∃n,n = p+k:=⟨_,rfl⟩
   rw [← hn] at q1 dl i0 i1 mS HX ⊢
   have HN:=ah hn
   clear hx hk hkc hn
   by_cases h0:x = 0
   ·subst h0
    go_wp2_with fail
    go_ret
    exact ⟨.inr ⟨rfl,n,by rw [HN.out];omega,by rw [HN.out];have:=HKC.out;omega,HX.out.symm⟩,rfl⟩
   ·have n0:(x == 0) = false:=beq_false_of_ne h0
    have Fv:=ah h0
    clear h0
    go_wp2_with fail
    go_roundw
    case rel=>exact ⟨trivial,k+1,by have:=HKC.out;omega,by rw [HN.out];go_num,ah (fun q h1 h2=>by
     by_cases e:q = n
     ·subst e;rw [← HX.out];exact Fv.out
     ·exact pF.out q h1 (by have:=HN.out;omega))⟩
    case measure=>have:=HKC.out;have:=HN.out;simp [intOf];omega
  ·obtain rfl:k = c:=by omega
   have dl:decide (((p+k:Nat):Int) < (p:Int)+(k:Int)) = false:=ac (by omega)
   clear hkc hk
   go_wp2_with fail
   go_ret
   exact ⟨.inl ⟨rfl,pF.out⟩,rfl⟩
end Go.Proofs.YtfoleblcaloeoaaGreatDoor
