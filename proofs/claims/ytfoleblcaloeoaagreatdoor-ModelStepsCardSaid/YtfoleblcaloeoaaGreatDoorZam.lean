import Derived.Test.YtfoleblcaloeoaaGreatDoorZal
set_option maxHeartbeats 40000000
set_option maxRecDepth 20000
namespace Go.Proofs.YtfoleblcaloeoaaGreatDoor
open Go Go.RowKit
section
variable {w W:World} {m:Nat} {M:Mo} {O:Nat→Prop} {bp bo be:Nat} {fp fo fe:Int→Option Value} {gb:Int→Nat} {GF:Int→Nat→Prop} {ov:Int→Value}
theorem gn {α:Type} (f:Int→α) (z:Int) (v:α):upd f z v z = v:=by unfold upd;rw [ah rfl]
theorem fu {α:Type} (f:Int→α) {z y:Int} (v:α) (h:y≠z):upd f z v y = f y:=by unfold upd;rw [ag h]
theorem aN (hI:MIn w m M bp bo be fp fo fe gb GF ov) (hO:∀k,FMo M m bp bo be GF ov k→O k) (hl:∀k,O k→k < w.heap.size) {pid:Int} {p p':Pr} {F':Nat→Prop} (hp:M.pr pid = some p)
  {G:Nat→Prop} (hc:CP G w W) (hG:∀k,G k→GF pid k∨¬ O k) (hP:PMem W (gb pid) p' F') (hF:∀k,F' k→GF pid k∨¬ O k) :
  CP (fun k=>O k∨G k) w W∧∃O',MMem W m { M with pr:=upd M.pr pid (some p') } O'∧∀k,O' k→O k∨F' k:=by
 have hm:=hI.dm pid p hp;have lR:∀k,O k→¬ GF pid k→¬ G k:=fun k h1 h2 h3=>(hG k h3).elim h2 (fun h=>h h1);have kG:∀k,F' k→k < W.heap.size:=by obtain ⟨_,_,_,_,_,_,_,_,_,h⟩:=hP;exact h
 have mW:=hc.size;have kT:∀n q,upd M.pr pid (some p') n = some q→n≠pid→M.pr n = some q:=fun n q h h2=>by rwa [fu _ _ h2] at h
 have tO:∀n q,M.pr n = some q→∀k,GF n k→O k:=fun n q h k hk=>hO k (.inr (.inr (.inr (.inr (.inl ⟨n,q,h,hk⟩)))));refine ⟨?_,fun k=>O k∨F' k,⟨bp,bo,be,fp,fo,fe,gb,upd GF pid F',ov,⟨hI.blk.cp hc (lR m (hO m (.inl rfl)) (fun h=>(hm m h).1 rfl)),hI.mp.cp hc (lR bp (hO bp (.inr (.inl rfl))) (fun h=>(hm bp h).2.1 rfl)),hI.mo.cp hc (lR bo (hO bo (.inr (.inr (.inl rfl)))) (fun h=>(hm bo h).2.2.1 rfl)),hI.me.cp hc (lR be (hO be (.inr (.inr (.inr (.inl rfl))))) (fun h=>(hm be h).2.2.2.1 rfl)),?_,?_,?_,?_,hI.ho,fun z B hB=>⟨SB.cp (hI.ob z B hB).1 hc (fun k hk=>lR k (hO k (.inr (.inr (.inr (.inr (.inr ⟨z,B,hB,hk⟩)))))) (fun h=>(hm k h).2.2.2.2 z B hB hk)),(hI.ob z B hB).2⟩,hI.oa,hI.he,hI.d1,hI.d2,hI.d3,?_⟩,?_,?_⟩,?_⟩
 ·obtain ⟨L,h1,h2⟩:=hc;exact ⟨L,h1,fun k hk=>(h2 k hk).imp .inr id⟩
 ·intro n;show fp n = (upd M.pr pid (some p') n).map _;by_cases h:n = pid
  ·rw [h,gn,hI.hp,hp];rfl
  ·rw [fu _ _ h];exact hI.hp n
 ·intro n q h;by_cases hn:n = pid
  ·subst hn;have e1:upd M.pr n (some p') n = some q:=h;rw [gn] at e1;obtain rfl:=aq e1;rw [gn];exact hP
  ·rw [fu _ _ hn];exact (hI.pr n q (kT n q h hn)).cp hc (fun k hk=>lR k (tO n q (kT n q h hn) k hk) (fun h2=>hI.ap n pid q p (kT n q h hn) hp hn k hk h2))
 ·intro n n' q q' h h' yO k hk mG;by_cases e1:n = pid
  ·subst e1;have e2:n'≠n:=fun e=>yO e.symm;rw [gn] at hk;rw [fu _ _ e2] at mG;rcases hF k hk with h3 | h3
   ·exact hI.ap n n' p q' hp (kT n' q' h' e2) yO k h3 mG
   ·exact h3 (tO n' q' (kT n' q' h' e2) k mG)
  ·rw [fu _ _ e1] at hk;by_cases e2:n' = pid
   ·subst e2;rw [gn] at mG;rcases hF k mG with h3 | h3
    ·exact hI.ap n n' q p (kT n q h e1) hp yO k hk h3
    ·exact h3 (tO n q (kT n q h e1) k hk)
   ·rw [fu _ _ e2] at mG;exact hI.ap n n' q q' (kT n q h e1) (kT n' q' h' e2) yO k hk mG
 ·intro n q h;by_cases e1:n = pid
  ·rw [e1];exact hI.rng pid p hp
  ·exact hI.rng n q (kT n q h e1)
 ·intro n q h k hk;by_cases e1:n = pid
  ·subst e1;rw [gn] at hk;rcases hF k hk with h3 | h3
   ·exact hm k h3
   ·exact ⟨fun e=>h3 (e ▸ hO m (.inl rfl)),fun e=>h3 (e ▸ hO bp (.inr (.inl rfl))),fun e=>h3 (e ▸ hO bo (.inr (.inr (.inl rfl)))),fun e=>h3 (e ▸ hO be (.inr (.inr (.inr (.inl rfl))))),fun z B hB rU=>h3 (hO k (.inr (.inr (.inr (.inr (.inr ⟨z,B,hB,rU⟩))))))⟩
  ·rw [fu _ _ e1] at hk;exact hI.dm n q (kT n q h e1) k hk
 ·rintro k (rfl | rfl | rfl | rfl | ⟨n,q,h,hk⟩ | ⟨z,B,hB,hk⟩)
  ·exact .inl (hO _ (.inl rfl))
  ·exact .inl (hO _ (.inr (.inl rfl)))
  ·exact .inl (hO _ (.inr (.inr (.inl rfl))))
  ·exact .inl (hO _ (.inr (.inr (.inr (.inl rfl)))))
  ·by_cases e1:n = pid
   ·subst e1;rw [gn] at hk;exact .inr hk
   ·rw [fu _ _ e1] at hk;exact .inl (hO _ (.inr (.inr (.inr (.inr (.inl ⟨n,q,kT n q h e1,hk⟩))))))
  ·exact .inl (hO _ (.inr (.inr (.inr (.inr (.inr ⟨z,B,hB,hk⟩))))))
 ·rintro k (h | h)
  ·have:=hl k h;omega
  ·exact kG k h
 ·rintro k (h | h)
  ·exact .inl h
  ·exact .inr h
theorem ya (hI:MIn w m M bp bo be fp fo fe gb GF ov) (hO:∀k,FMo M m bp bo be GF ov k→O k) (hl:∀k,O k→k < w.heap.size) {pid:Int} {p p':Pr} {F':Nat→Prop} (hp:M.pr pid = some p)
  (hc:CP (GF pid) w W) (hP:PMem W (gb pid) p' F') (hF:∀k,F' k→GF pid k∨¬ O k) :
  CP O w W∧∃O',MMem W m { M with pr:=upd M.pr pid (some p') } O'∧∀k,O' k→O k∨F' k:=by
 obtain ⟨h1,h2⟩:=aN hI hO hl hp hc (fun k h=>.inl h) hP hF;refine ⟨?_,h2⟩;obtain ⟨L,g1,g2⟩:=h1;exact ⟨L,g1,fun k hk=>(g2 k hk).imp (fun h=>h.elim id (fun h=>hO k (.inr (.inr (.inr (.inr (.inl ⟨pid,p,hp,h⟩))))))) id⟩
theorem exit_end (hI:MIn w m M bp bo be fp fo fe gb GF ov) (hO:∀k,FMo M m bp bo be GF ov k→O k) (hl:∀k,O k→k < w.heap.size) {pid:Int}
  (h5:MapB W bp .i64 fun y=>if y = pid then none else fp y) (kE:Chg [bp] w W) :
  CP O w W∧∃O',MMem W m { M with pr:=upd M.pr pid none } O'∧∀k,O' k→O k∨w.heap.size≤k:=by
 have nN:CP (fun k=>k = bp) w W:=CP.of kE (fun k hk=>.inl (aa hk));have kT:∀n q,upd M.pr pid none n = some q→n≠pid∧M.pr n = some q:=fun n q h=>by
  by_cases e:n = pid
  ·subst e;rw [gn] at h;cases h
  ·rw [fu _ _ e] at h;exact ⟨e,h⟩
 refine ⟨CP.of kE (fun k hk=>.inl (by obtain rfl:=aa hk;exact hO _ (.inr (.inl rfl)))),O,⟨bp,bo,be,_,fo,fe,gb,GF,ov,⟨hI.blk.cp nN (hI.blk.ne_map hI.mp),h5,hI.mo.cp nN (fun e=>hI.d1 e.symm),hI.me.cp nN (fun e=>hI.d2 e.symm),?_,?_,?_,?_,hI.ho,fun z B hB=>⟨SB.cp (hI.ob z B hB).1 nN (fun k hk e=>SB.ne_map (hI.ob z B hB).1 hI.mp (e ▸ hk)),(hI.ob z B hB).2⟩,hI.oa,hI.he,hI.d1,hI.d2,hI.d3,?_⟩,?_,?_⟩,fun k hk=>.inl hk⟩
 ·intro n;show (if n = pid then none else fp n) = (upd M.pr pid none n).map _;by_cases h:n = pid
  ·rw [ah h,h,gn];rfl
  ·rw [ag h,fu _ _ h];exact hI.hp n
 ·intro n q h;obtain ⟨e,h2⟩:=kT n q h;exact (hI.pr n q h2).cp nN (fun k hk e2=>(hI.dm n q h2 k hk).2.1 e2)
 ·intro n n' q q' h h' yO k hk mG;exact hI.ap n n' q q' (kT n q h).2 (kT n' q' h').2 yO k hk mG
 ·intro n q h;exact hI.rng n q (kT n q h).2
 ·intro n q h k hk;exact hI.dm n q (kT n q h).2 k hk
 ·rintro k (rfl | rfl | rfl | rfl | ⟨n,q,h,hk⟩ | ⟨z,B,hB,hk⟩)
  ·exact hO _ (.inl rfl)
  ·exact hO _ (.inr (.inl rfl))
  ·exact hO _ (.inr (.inr (.inl rfl)))
  ·exact hO _ (.inr (.inr (.inr (.inl rfl))))
  ·exact hO _ (.inr (.inr (.inr (.inr (.inl ⟨n,q,(kT n q h).2,hk⟩)))))
  ·exact hO _ (.inr (.inr (.inr (.inr (.inr ⟨z,B,hB,hk⟩)))))
 ·intro k hk;have:=hl k hk;have:=kE.size;omega
theorem bI (hI:MIn w m M bp bo be fp fo fe gb GF ov) (hO:∀k,FMo M m bp bo be GF ov k→O k) (hl:∀k,O k→k < w.heap.size) {L:List Nat} (hc:Chg L w W) (hL:∀k∈L,k = bo∨k = be∨(∃h B,M.ob h = some B∧k∈own (ov h))∨w.heap.size≤k)
  {ob':Int→Option (List Nat)} {ev':Int→Bool} {fo' fe':Int→Option Value} {ov':Int→Value} (ho:MapB W bo .u64 fo') (he:MapB W be .u64 fe')
  (h1:∀h,fo' h = (ob' h).map fun _=>ov' h) (h2:∀h B,ob' h = some B→SB W (ov' h) B∧(∀x∈B,x < 256)∧B.length≤128)
  (h3:∀h h' B B',ob' h = some B→ob' h' = some B'→h≠h'→∀k∈own (ov' h),k∉own (ov' h')) (h4:∀h,fe' h = if ev' h then some (.bool true) else none)
  (h5:∀h B,ob' h = some B→∀k∈own (ov' h),(∃h' B',M.ob h' = some B'∧k∈own (ov h'))∨w.heap.size≤k) :
  CP O w W∧∃O',MMem W m { M with ob:=ob',ev:=ev' } O'∧∀k,O' k→O k∨w.heap.size≤k:=by
 have hG:CP (fun k=>k = bo∨k = be∨∃h B,M.ob h = some B∧k∈own (ov h)) w W:=CP.of hc (fun k hk=>by
  rcases hL k hk with h | h | h | h
  ·exact .inl (.inl h)
  ·exact .inl (.inr (.inl h))
  ·exact .inl (.inr (.inr h))
  ·exact .inr h)
 have n1:∀z B,M.ob z = some B→m∉own (ov z):=fun z B hB hk=>by
  obtain ⟨cur,wL⟩:=Sl.blk (hI.ob z B hB).1 hk;exact Blk.ne_ hI.blk wL (by decide) rfl
 have n2:∀z B,M.ob z = some B→bp∉own (ov z):=fun z B hB hk=>SB.ne_map (hI.ob z B hB).1 hI.mp hk;have mW:=hc.size;refine ⟨?_,fun k=>O k∨∃h B,ob' h = some B∧k∈own (ov' h),⟨bp,bo,be,fp,fo',fe',gb,GF,ov',⟨hI.blk.cp hG ?_,hI.mp.cp hG ?_,ho,he,hI.hp,?_,hI.ap,hI.rng,h1,h2,h3,h4,hI.d1,hI.d2,hI.d3,?_⟩,?_,?_⟩,?_⟩
 ·obtain ⟨G,g1,g2⟩:=hG;refine ⟨G,g1,fun k hk=>(g2 k hk).imp (fun h=>?_) id⟩;rcases h with rfl | rfl | ⟨z,B,hB,rU⟩
  ·exact hO _ (.inr (.inr (.inl rfl)))
  ·exact hO _ (.inr (.inr (.inr (.inl rfl))))
  ·exact hO _ (.inr (.inr (.inr (.inr (.inr ⟨z,B,hB,rU⟩)))))
 ·rintro (h | h | ⟨z,B,hB,hk⟩)
  ·exact hI.blk.ne_map hI.mo h
  ·exact hI.blk.ne_map hI.me h
  ·exact n1 z B hB hk
 ·rintro (h | h | ⟨z,B,hB,hk⟩)
  ·exact hI.d1 h
  ·exact hI.d2 h
  ·exact n2 z B hB hk
 ·intro n q h;exact (hI.pr n q h).cp hG (fun k hk hg=>by
   have hd:=hI.dm n q h k hk
   rcases hg with h | h | ⟨z,B,hB,rU⟩
   ·exact hd.2.2.1 h
   ·exact hd.2.2.2.1 h
   ·exact hd.2.2.2.2 z B hB rU)
 ·intro n q h k hk;have hd:=hI.dm n q h k hk;refine ⟨hd.1,hd.2.1,hd.2.2.1,hd.2.2.2.1,fun z B hB rU=>?_⟩;rcases h5 z B hB k rU with ⟨z',B',yD,Es⟩ | h6
  ·exact hd.2.2.2.2 z' B' yD Es
  ·have:=hl k (hO k (.inr (.inr (.inr (.inr (.inl ⟨n,q,h,hk⟩))))));omega
 ·rintro k (rfl | rfl | rfl | rfl | ⟨n,q,h,hk⟩ | ⟨z,B,hB,hk⟩)
  ·exact .inl (hO _ (.inl rfl))
  ·exact .inl (hO _ (.inr (.inl rfl)))
  ·exact .inl (hO _ (.inr (.inr (.inl rfl))))
  ·exact .inl (hO _ (.inr (.inr (.inr (.inl rfl)))))
  ·exact .inl (hO _ (.inr (.inr (.inr (.inr (.inl ⟨n,q,h,hk⟩))))))
  ·exact .inr ⟨z,B,hB,hk⟩
 ·rintro k (h | ⟨z,B,hB,hk⟩)
  ·have:=hl k h;omega
  ·exact (h2 z B hB).1.own_lt k hk
 ·rintro k (h | ⟨z,B,hB,hk⟩)
  ·exact .inl h
  ·exact (h5 z B hB k hk).imp (fun ⟨z',B',yD,mG⟩=>hO _ (.inr (.inr (.inr (.inr (.inr ⟨z',B',yD,mG⟩)))))) id
end
